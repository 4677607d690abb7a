/- The arguments of PoolPlays opened: acts. -/
import Derived.Test.YtndglfiepeefdaaGreatMPG
import Derived.Test.YtndglfiepeefdaaGreatMPX
import Derived.ChangeSlices

namespace Go.Proofs.YtndglfiepeefdaaGreat
open Go.ChangeShapes Go.WideShapes Go.ChangeAt Go.RowKit Go.Deep

theorem u8_natP {n : Int} (h : (Lit.int .u8 n).wf = true) : ∃ m : Nat, n = (m : Int) ∧ m < 256 := by
  simp [Lit.wf, IntKind.min, IntKind.max, IntKind.signed, IntKind.bits] at h
  exact ⟨n.toNat, by omega, by omega⟩
theorem u32_natP {n : Int} (h : (Lit.int .u32 n).wf = true) : ∃ m : Nat, n = (m : Int) ∧ m < 4294967296 := by
  simp [Lit.wf, IntKind.min, IntKind.max, IntKind.signed, IntKind.bits] at h
  exact ⟨n.toNat, by omega, by omega⟩
theorem u64_natP {n : Int} (h : (Lit.int .u64 n).wf = true) : ∃ m : Nat, n = (m : Int) ∧ m < 18446744073709551616 := by
  simp [Lit.wf, IntKind.min, IntKind.max, IntKind.signed, IntKind.bits] at h
  exact ⟨n.toNat, by omega, by omega⟩
instance : Inhabited PAct := ⟨⟨0, 0, ⟨0, 0, 0, 0, 0, []⟩, false, [], []⟩⟩

set_option maxRecDepth 100000 in
set_option maxHeartbeats 1000000 in
/-- A page, opened: its words. -/
theorem page_openedP {H : Type} {enc : TypeId × Value → H} {w : World} {fuel : Nat} {cs : List Value} {x : DataW H × List MemPlace} (h : DataW.trod enc Tryz.prog w 0 (fun _ => true) true fuel 32 cs = some x) (hs : Small Tryz.prog 32 x.1) :
    ∃ (p : Sp.Pg) (A : Option Addr) (c : Nat), cs = (pgCs p A c).toList ∧ p.wf ∧ NilOk A c p.rows.length ∧ RowsAt (fun b => b < w.heap.size) w A p.rows ∧ p.rows.length ≤ 140737488351232 ∧ ∀ r ∈ p.rows, r.length ≤ 140737488351232 := by
  obtain ⟨hl, ys, n, hx, hf⟩ := fields_opened Tryz.underlying32 h
  rw [show Tryz.prog.cellsOf 32 = 6 by kernel_rfl] at hl
  match cs, hl with
  | [v0, v1, v2, v3, v4, v5], _ =>
    obtain ⟨y0, _, _, h0⟩ := hf 0 _ rfl
    obtain ⟨y1, _, _, h1⟩ := hf 1 _ rfl
    obtain ⟨y2, _, _, h2⟩ := hf 2 _ rfl
    obtain ⟨y3, _, _, h3⟩ := hf 3 _ rfl
    obtain ⟨y4, _, _, h4⟩ := hf 4 _ rfl
    obtain ⟨y5, _, hy5, h5⟩ := hf 5 _ rfl
    rw [hx] at hs
    have hs5 := small_field Tryz.underlying32 hs (j := 5) rfl hy5
    have c8 : Tryz.prog.cellsOf 5 = 1 := by kernel_rfl
    have c32 : Tryz.prog.cellsOf 28 = 1 := by kernel_rfl
    have c64 : Tryz.prog.cellsOf 29 = 1 := by kernel_rfl
    have cs1 : Tryz.prog.cellsOf 30 = 1 := by kernel_rfl
    replace h0 : DataW.trod enc Tryz.prog w 0 (fun _ => true) true n 5 [v0] = some y0 := by rw [← h0]; show _ = DataW.trod _ _ _ _ _ _ _ _ (List.take (Tryz.prog.cellsOf 5) _); rw [c8]; rfl
    replace h1 : DataW.trod enc Tryz.prog w 0 (fun _ => true) true n 5 [v1] = some y1 := by rw [← h1]; show _ = DataW.trod _ _ _ _ _ _ _ _ (List.take (Tryz.prog.cellsOf 5) _); rw [c8]; rfl
    replace h2 : DataW.trod enc Tryz.prog w 0 (fun _ => true) true n 28 [v2] = some y2 := by rw [← h2]; show _ = DataW.trod _ _ _ _ _ _ _ _ (List.take (Tryz.prog.cellsOf 28) _); rw [c32]; rfl
    replace h3 : DataW.trod enc Tryz.prog w 0 (fun _ => true) true n 29 [v3] = some y3 := by rw [← h3]; show _ = DataW.trod _ _ _ _ _ _ _ _ (List.take (Tryz.prog.cellsOf 29) _); rw [c64]; rfl
    replace h4 : DataW.trod enc Tryz.prog w 0 (fun _ => true) true n 28 [v4] = some y4 := by rw [← h4]; show _ = DataW.trod _ _ _ _ _ _ _ _ (List.take (Tryz.prog.cellsOf 28) _); rw [c32]; rfl
    replace h5 : DataW.trod enc Tryz.prog w 0 (fun _ => true) true n 30 [v5] = some y5 := by rw [← h5]; show _ = DataW.trod _ _ _ _ _ _ _ _ (List.take (Tryz.prog.cellsOf 30) _); rw [cs1]; rfl
    obtain ⟨k, e0, _, w0⟩ := DataW.trod_int Tryz.underlying5 h0
    obtain ⟨lv, e1, _, w1⟩ := DataW.trod_int Tryz.underlying5 h1
    obtain ⟨id, e2, _, w2⟩ := DataW.trod_int Tryz.underlying28 h2
    obtain ⟨lsn, e3, _, w3⟩ := DataW.trod_int Tryz.underlying29 h3
    obtain ⟨nx, e4, _, w4⟩ := DataW.trod_int Tryz.underlying28 h4
    have hnil : v5 = .slice none 0 0 ∨ ∃ a m c, v5 = .slice (some a) m c := by
      rcases open_slice Tryz.underlying30 h5 with ⟨hcs, _⟩ | ⟨a, len, cap, m, n, D, Pl, hcs, _⟩
      · exact .inl (by simpa using hcs)
      · exact .inr ⟨a, len, cap, by simpa using hcs⟩
    obtain ⟨A, c, rows, hv5, hR, hlr, hz⟩ := strings_opened Tryz.underlying30 Tryz.underlying9 (by kernel_rfl) (by kernel_rfl) h5 hs5
    simp at e0 e1 e2 e3 e4
    subst e0 e1 e2 e3 e4
    obtain ⟨k, rfl, q0⟩ := u8_natP w0
    obtain ⟨lv, rfl, q1⟩ := u8_natP w1
    obtain ⟨id, rfl, q2⟩ := u32_natP w2
    obtain ⟨lsn, rfl, q3⟩ := u64_natP w3
    obtain ⟨nx, rfl, q4⟩ := u32_natP w4
    have hN : NilOk A c rows.length := by
      rcases hnil with e | ⟨a, m, c', e⟩
      · rw [hv5] at e
        injection e with e1 e2 e3
        exact .inr ⟨e1, e3, e2⟩
      · rw [hv5] at e
        injection e with e1 e2 e3
        exact .inl ⟨a, e1⟩
    have erow : rows.map Value.string = rcs (rows.map fun s => s.data.toList) := by
      unfold rcs
      rw [List.map_map]
      apply List.map_congr_left
      intro s _
      rfl
    subst hv5
    refine ⟨⟨k, lv, id, lsn, nx, rows.map fun s => s.data.toList⟩, A, c, by simp, ⟨q0, q1, q2, q3, q4⟩, by simpa using hN, ?_, by simp; omega, fun r hr => ?_⟩
    · show Reads _ w 1 A (rows.map _).length _
      rw [List.length_map, ← erow]
      exact hR
    · obtain ⟨s, hs, rfl⟩ := List.mem_map.1 hr
      have := hz s hs
      rw [Array.length_toList]
      exact this
end Go.Proofs.YtndglfiepeefdaaGreat

/- The arguments of PoolPlays opened: acts. -/
namespace Go.Proofs.YtndglfiepeefdaaGreat
open Go.ChangeShapes Go.WideShapes Go.ChangeAt Go.RowKit Go.Deep

set_option maxRecDepth 100000 in
set_option maxHeartbeats 1000000 in
/-- An act, opened. -/
theorem act_openedP {H : Type} {enc : TypeId × Value → H} {w : World} {fuel : Nat} {cs : List Value} {x : DataW H × List MemPlace} (h : DataW.trod enc Tryz.prog w 0 (fun _ => true) true fuel 35 cs = some x) (hs : Small Tryz.prog 35 x.1) :
    ∃ (a : PAct) (AX : Option Addr) (cX : Nat) (AP : Option Addr) (cP : Nat), cs = (a.cs AX cX AP cP).toList ∧ a.Ok ∧ a.hv.ok ∧ NilOk AX cX a.x.rows.length ∧ RowsAt (fun b => b < w.heap.size) w AX a.x.rows ∧ NilOk AP cP a.pages.length ∧ Reads (fun b => b < w.heap.size) w 1 AP a.pages.length (a.pages.map u32v) := by
  obtain ⟨hl, ys, n, hx, hf⟩ := fields_opened Tryz.underlying35 h
  rw [show Tryz.prog.cellsOf 35 = 11 by kernel_rfl] at hl
  match cs, hl with
  | [v0, v1, v2, v3, v4, v5, v6, v7, v8, v9, v10], hl =>
    obtain ⟨y0, _, _, h0⟩ := hf 0 _ rfl
    obtain ⟨y1, _, _, h1⟩ := hf 1 _ rfl
    obtain ⟨y2, _, hy2, h2⟩ := hf 2 _ rfl
    obtain ⟨y3, _, _, h3⟩ := hf 3 _ rfl
    obtain ⟨y4, _, hy4, h4⟩ := hf 4 _ rfl
    obtain ⟨y5, _, hy5, h5⟩ := hf 5 _ rfl
    rw [hx] at hs
    have hs2 := small_field Tryz.underlying35 hs (j := 2) rfl hy2
    have hs4 := small_field Tryz.underlying35 hs (j := 4) rfl hy4
    have hs5 := small_field Tryz.underlying35 hs (j := 5) rfl hy5
    have c8 : Tryz.prog.cellsOf 5 = 1 := by kernel_rfl
    have c32 : Tryz.prog.cellsOf 28 = 1 := by kernel_rfl
    have cpg : Tryz.prog.cellsOf 32 = 6 := by kernel_rfl
    have cbo : Tryz.prog.cellsOf 4 = 1 := by kernel_rfl
    have cst : Tryz.prog.cellsOf 9 = 1 := by kernel_rfl
    have csl : Tryz.prog.cellsOf 33 = 1 := by kernel_rfl
    replace h0 : DataW.trod enc Tryz.prog w 0 (fun _ => true) true n 5 [v0] = some y0 := by rw [← h0]; show _ = DataW.trod _ _ _ _ _ _ _ _ (List.take (Tryz.prog.cellsOf 5) _); rw [c8]; rfl
    replace h1 : DataW.trod enc Tryz.prog w 0 (fun _ => true) true n 28 [v1] = some y1 := by rw [← h1]; show _ = DataW.trod _ _ _ _ _ _ _ _ (List.take (Tryz.prog.cellsOf 28) _); rw [c32]; rfl
    replace h2 : DataW.trod enc Tryz.prog w 0 (fun _ => true) true n 32 [v2, v3, v4, v5, v6, v7] = some y2 := by rw [← h2]; show _ = DataW.trod _ _ _ _ _ _ _ _ (List.take (Tryz.prog.cellsOf 32) _); rw [cpg]; rfl
    replace h3 : DataW.trod enc Tryz.prog w 0 (fun _ => true) true n 4 [v8] = some y3 := by rw [← h3]; show _ = DataW.trod _ _ _ _ _ _ _ _ (List.take (Tryz.prog.cellsOf 4) _); rw [cbo]; rfl
    replace h4 : DataW.trod enc Tryz.prog w 0 (fun _ => true) true n 9 [v9] = some y4 := by rw [← h4]; show _ = DataW.trod _ _ _ _ _ _ _ _ (List.take (Tryz.prog.cellsOf 9) _); rw [cst]; rfl
    replace h5 : DataW.trod enc Tryz.prog w 0 (fun _ => true) true n 33 [v10] = some y5 := by rw [← h5]; show _ = DataW.trod _ _ _ _ _ _ _ _ (List.take (Tryz.prog.cellsOf 33) _); rw [csl]; rfl
    obtain ⟨k, e0, _, w0⟩ := DataW.trod_int Tryz.underlying5 h0
    obtain ⟨id, e1, _, w1⟩ := DataW.trod_int Tryz.underlying28 h1
    obtain ⟨bo, e3, _⟩ := DataW.trod_bool Tryz.underlying4 h3
    obtain ⟨s, e4, ey, _⟩ := DataW.trod_string Tryz.underlying9 h4
    simp at e0 e1 e3 e4
    obtain ⟨m, rfl, hm⟩ := u8_natP w0
    obtain ⟨pg, rfl, hpg⟩ := u32_natP w1
    rw [ey] at hs4
    have hsz := small_string hs4
    obtain ⟨p, A, c, e7, hpw, hN, hR, hrl, hrz⟩ := page_openedP h2 hs2
    obtain ⟨q, P, cp, e10, hnp, hN2, hR2, hq⟩ : ∃ (q : List Nat) (P : Option Addr) (c : Nat), v10 = .slice P q.length c ∧ q.length ≤ 140737488351232 ∧ NilOk P c q.length ∧ Reads (fun b => b < w.heap.size) w 1 P q.length (q.map u32v) ∧ ∀ n ∈ q, n < 4294967296 := by
      rcases open_ints Tryz.underlying33 Tryz.underlying28 (by kernel_rfl) h5 with ⟨hcs, _⟩ | ⟨a, len, cap, zs, hcs, _, hlc, hm', hzl, hxx, hcell, hzw⟩
      · exact ⟨[], none, 0, by simpa using hcs, by simp, .inr ⟨rfl, rfl, rfl⟩, Reads.none_, by simp⟩
      · rw [hxx] at hs5
        have hss := small_slice Tryz.underlying33 hs5
        rw [show Tryz.prog.bytesOf 28 = 4 by kernel_rfl] at hss
        have hzl' : zs.length = cap := by simpa using hzl
        simp [lits] at hss
        have hql : ((zs.take len).map Int.toNat).length = len := by simp; omega
        refine ⟨(zs.take len).map Int.toNat, some a, cap, by rw [hql]; simpa using hcs, by rw [hql]; omega, .inl ⟨a, rfl⟩, ?_, fun z hz => ?_⟩
        · rw [hql]
          refine ⟨by simp; omega, fun hn => ?_⟩
          have hce : ∀ i, i < len → w.cell? (a.add i) = some (.int .u32 (zs.getD i 0)) := fun i hi => hcell i (by omega)
          obtain ⟨b, off, spot⟩ := a
          have k0 := hce 0 hn
          have k0' : w.cell? ((⟨b, off, spot⟩ : Addr)) = some (.int .u32 (zs.getD 0 0)) := by simpa [Addr.add] using k0
          have hspot : spot = none := by simpa using World.cell?_spot k0'
          subst hspot
          refine ⟨b, off, rfl, World.block_lt_of_cell? w _ k0', World.block_lt_of_cell? w _ k0', fun j u hu => ?_⟩
          have hj : j < len := by
            have := (List.getElem?_eq_some_iff.1 hu).1
            simp at this; omega
          have := hce j hj
          rw [addr_addn] at this
          rw [this]
          have hjz : j < zs.length := by omega
          have hwf := u32_natP (hzw zs[j] (List.getElem_mem hjz))
          obtain ⟨m', em, _⟩ := hwf
          simp only [List.getElem?_map, List.getElem?_take_of_lt hj, List.getElem?_eq_getElem hjz, Option.map_some, Option.some.injEq] at hu
          rw [← hu, List.getD_eq_getElem?_getD, List.getElem?_eq_getElem hjz, em]
          rfl
        · obtain ⟨z', hz', rfl⟩ := List.mem_map.1 hz
          obtain ⟨m', em, hm2⟩ := u32_natP (hzw z' (List.mem_of_mem_take hz'))
          rw [em]; simpa using hm2
    subst e0 e1 e3 e4 e10
    injection e7 with f2 e7
    injection e7 with f3 e7
    injection e7 with f4 e7
    injection e7 with f5 e7
    injection e7 with f6 e7
    injection e7 with f7 _
    subst f2 f3 f4 f5 f6 f7
    refine ⟨⟨m, pg, p, bo, s.data.toList, q⟩, A, c, P, cp, rfl, ⟨hm, hpg, hpw, hq, fun r hr => by have := hrz r hr; omega⟩, ⟨?_, by show q.length ≤ _; omega, by show (p.rows.map baOf).length ≤ _; rw [List.length_map]; omega, fun z hz => ?_⟩, hN, hR, hN2, hR2⟩
    · show (baOf s.data.toList).size ≤ _
      show s.data.toList.toArray.size ≤ _
      rw [List.size_toArray]
      exact Nat.le_trans hsz (by omega)
    · obtain ⟨r, hr, rfl⟩ := List.mem_map.1 hz
      have := hrz r hr
      show r.toArray.size ≤ _
      rw [List.size_toArray]
      omega
set_option maxRecDepth 100000 in
/-- A list of acts, opened. -/
theorem acts_openedP {H : Type} {enc : TypeId × Value → H} {w : World} {fuel : Nat} {v : Value} {x : DataW H × List MemPlace} (h : DataW.trod enc Tryz.prog w 0 (fun _ => true) true fuel 22 [v] = some x) (hs : Small Tryz.prog 22 x.1) :
    ∃ (A : Option Addr) (c : Nat) (l : List PAct), v = .slice A l.length c ∧ PActAt w A l ∧ l.length ≤ 140737488351232 ∧ (∀ a ∈ l, a.hv.ok) ∧ ∀ a ∈ l, a.Ok := by
  rcases open_slice Tryz.underlying22 h with ⟨hcs, _⟩ | ⟨a, len, cap, m, n, D, Pl, hcs, _, hl, hm, hmm, hx, hc⟩
  · obtain rfl : v = _ := by simpa using hcs
    exact ⟨none, 0, [], rfl, fun h => absurd h (by simp), by simp, by simp, by simp⟩
  · obtain rfl : v = _ := by simpa using hcs
    have hlm : len ≤ m := by rw [hmm]; split <;> omega
    rw [hx] at hs
    have hsz := small_slice Tryz.underlying22 hs
    rw [show Tryz.prog.bytesOf 35 = 104 by kernel_rfl] at hsz
    simp only [List.length_map, List.length_range] at hsz
    have c11 : Tryz.prog.cellsOf 35 = 11 := by kernel_rfl
    obtain ⟨S, hS⟩ := choose_lt (α := PAct) (n := len) (p := fun i s => ∃ cs, w.cells? 0 (a.add (i * 11)) 11 = some cs ∧ ∃ (AX : Option Addr) (cX : Nat) (AP : Option Addr) (cP : Nat), cs = (s.cs AX cX AP cP).toList ∧ s.Ok ∧ s.hv.ok ∧ NilOk AX cX s.x.rows.length ∧ RowsAt (fun b => b < w.heap.size) w AX s.x.rows ∧ NilOk AP cP s.pages.length ∧ Reads (fun b => b < w.heap.size) w 1 AP s.pages.length (s.pages.map u32v)) (fun i hi => by
      obtain ⟨cs', h1, h2⟩ := hc i (by omega)
      have hsi := small_elem Tryz.underlying22 hs (d := D i) (List.mem_map.2 ⟨i, List.mem_range.2 hi, rfl⟩)
      obtain ⟨s, q⟩ := act_openedP h2 hsi
      rw [c11] at h1
      exact ⟨s, cs', h1, q⟩)
    obtain ⟨b, off, hab⟩ : ∃ b off, 0 < len → a = ⟨b, off, none⟩ ∧ b < w.heap.size := by
      obtain ⟨b, off, spot⟩ := a
      refine ⟨b, off, fun hn => ?_⟩
      obtain ⟨cs, q1, AX, cX, AP, cP, rfl, _⟩ := hS 0 hn
      obtain ⟨_, _, hc0⟩ := World.cells?_some q1
      have k0 := hc0 0 (by omega)
      have k0' : w.cell? ((⟨b, off, spot⟩ : Addr)) = some (.int .u8 (S 0).do_) := by simpa [Addr.add, PAct.cs] using k0
      have hspot : spot = none := by simpa using World.cell?_spot k0'
      subst hspot
      exact ⟨rfl, World.block_lt_of_cell? w _ k0'⟩
    refine ⟨some a, cap, (List.range len).map S, by simp, fun hn => ?_, by simp; omega, fun s hm => ?_, fun s hm => ?_⟩
    · have hn' : 0 < len := by simpa using hn
      refine ⟨b, off, by rw [(hab hn').1], (hab hn').2, fun i s hi => ?_⟩
      obtain ⟨hil, hi'⟩ : ∃ hil : i < len, s = S i := by
        rw [List.getElem?_map] at hi
        by_cases hil : i < len
        · rw [List.getElem?_range hil] at hi
          exact ⟨hil, by simpa using hi.symm⟩
        · rw [List.getElem?_eq_none (by simpa using hil)] at hi; cases hi
      subst hi'
      obtain ⟨cs, q1, AX, cX, AP, cP, rfl, _, _, h1, h2, h3, h4⟩ := hS i hil
      refine ⟨AX, cX, AP, cP, h1, h2, h3, h4, fun j hj => ?_⟩
      obtain ⟨_, _, hcj⟩ := World.cells?_some q1
      have := hcj j hj
      rw [(hab hn').1, add_add] at this
      have e2 : (⟨b, off, none⟩ : Addr).add (i * 11 + j) = ⟨b, off + i * 11 + j, none⟩ := by
        rw [Nat.add_assoc]
        cases hz : i * 11 + j <;> simp [Addr.add]
      rw [e2, Array.getElem?_toList] at this
      exact this
    · obtain ⟨i, hi, rfl⟩ := List.mem_map.1 hm
      obtain ⟨cs, q1, AX, cX, AP, cP, _, _, h1, _⟩ := hS i (by simpa using hi)
      exact h1
    · obtain ⟨i, hi, rfl⟩ := List.mem_map.1 hm
      obtain ⟨cs, q1, AX, cX, AP, cP, _, h1, _⟩ := hS i (by simpa using hi)
      exact h1
theorem hvAt_of {w : World} {A : Option Addr} {ls : List PAct} (h : PActAt w A ls) : HvAt w A (ls.map PAct.hv) := fun hn => by
  obtain ⟨b, o, rfl, hb, hc⟩ := h (by simpa using hn)
  refine ⟨b, o, rfl, hb, fun i x hi => ?_⟩
  rw [List.getElem?_map] at hi
  cases ha : ls[i]? with
  | none => rw [ha] at hi; cases hi
  | some a =>
    rw [ha] at hi
    injection hi with hi
    subst hi
    obtain ⟨AX, cX, AP, cP, _, hR, _, _, hk⟩ := hc i a ha
    have el : a.hv.rows.length = a.x.rows.length := by show (a.x.rows.map baOf).length = _; rw [List.length_map]
    have er : a.hv.rows.map Value.string = rcs a.x.rows := by
      show (a.x.rows.map baOf).map Value.string = _
      unfold rcs
      rw [List.map_map]
      rfl
    refine ⟨(hk 9 (by omega)).trans rfl, ⟨AP, cP, (hk 10 (by omega)).trans rfl⟩, AX, cX, ?_, ?_⟩
    · rw [el]; exact (hk 7 (by omega)).trans rfl
    · rw [el, er]; exact hR
end Go.Proofs.YtndglfiepeefdaaGreat
