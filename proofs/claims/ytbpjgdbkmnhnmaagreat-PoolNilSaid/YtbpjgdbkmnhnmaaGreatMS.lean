/- The walk of the law package pentimentolaw15: Heavy. -/
import Derived.Test.YtbpjgdbkmnhnmaaGreatMP
import Derived.Test.YtbpjgdbkmnhnmaaGreatMM

namespace Go.Proofs.YtbpjgdbkmnhnmaaGreat
open Go.RowKit Go.Conc

/-- What Heavy looks at, of an act. -/
structure HvA where
  row : ByteArray
  np : Nat
  rows : List ByteArray
def sizes (l : List ByteArray) : Nat := (l.map ByteArray.size).sum
def HvA.w (a : HvA) : Nat := a.row.size + a.np + 4 * a.rows.length + sizes (a.rows.take 50)
def hvSum (l : List HvA) : Nat := (l.map HvA.w).sum
def hvB (l : List HvA) : Bool := decide (60 < l.length) || decide (4000 < hvSum (l.take 100))
/-- An act within the reach. -/
def HvA.ok (a : HvA) : Prop := a.row.size ≤ 140737488355328 ∧ a.np ≤ 140737488355328 ∧ a.rows.length ≤ 140737488355328 ∧ ∀ s ∈ a.rows, s.size ≤ 140737488355328

theorem sizes_snoc (l : List ByteArray) (s : ByteArray) : sizes (l ++ [s]) = sizes l + s.size := by simp [sizes]
theorem hvSum_snoc (l : List HvA) (a : HvA) : hvSum (l ++ [a]) = hvSum l + a.w := by simp [hvSum]
theorem sizes_le : ∀ (l : List ByteArray), (∀ s ∈ l, s.size ≤ 140737488355328) → sizes l ≤ l.length * 140737488355328
  | [], _ => by simp [sizes]
  | s :: l, h => by
    have h1 := h s List.mem_cons_self
    have h2 := sizes_le l (fun x hx => h x (List.mem_cons_of_mem _ hx))
    unfold sizes at h2 ⊢
    simp only [List.map_cons, List.sum_cons, List.length_cons]
    omega
theorem HvA.w_le {a : HvA} (h : a.ok) : a.w ≤ 56 * 140737488355328 := by
  obtain ⟨h1, h2, h3, h4⟩ := h
  have := sizes_le (a.rows.take 50) (fun s hs => h4 s (List.mem_of_mem_take hs))
  have hl : (a.rows.take 50).length ≤ 50 := by simp; omega
  unfold HvA.w
  omega
theorem hvSum_le : ∀ (l : List HvA), (∀ a ∈ l, a.ok) → hvSum l ≤ l.length * (56 * 140737488355328)
  | [], _ => by simp [hvSum]
  | s :: l, h => by
    have h1 := HvA.w_le (h s List.mem_cons_self)
    have h2 := hvSum_le l (fun x hx => h x (List.mem_cons_of_mem _ hx))
    unfold hvSum at h2 ⊢
    simp only [List.map_cons, List.sum_cons, List.length_cons]
    omega

/-- The acts in memory, as far as Heavy looks. -/
def HvAt (w : World) (A : Option Addr) (l : List HvA) : Prop :=
  0 < l.length → ∃ b o, A = some ⟨b, o, none⟩ ∧ b < w.heap.size ∧ ∀ i a, l[i]? = some a → w.cell? ⟨b, o + i * 11 + 9, none⟩ = some (.string a.row) ∧ (∃ P c, w.cell? ⟨b, o + i * 11 + 10, none⟩ = some (.slice P a.np c)) ∧
    ∃ R c, w.cell? ⟨b, o + i * 11 + 7, none⟩ = some (.slice R a.rows.length c) ∧ Reads (fun b => b < w.heap.size) w 1 R a.rows.length (a.rows.map Value.string)

theorem hv_below {W w1 : World} (hb : Below W.heap.size W w1) {b o : Nat} {v : Value} (hl : b < W.heap.size) (h : W.cell? ⟨b, o, none⟩ = some v) : w1.cell? ⟨b, o, none⟩ = some v := (hb.cell (p := ⟨b, o, none⟩) hl).trans h

set_option maxRecDepth 100000 in
set_option maxHeartbeats 2000000 in
theorem law_heavy (A : Option Addr) (cap : Nat) (l : List HvA) (hl : l.length ≤ 140737488355328) (hok : ∀ a ∈ l, a.ok) (w : World) (h : HvAt w A l) :
    Calls Tryz.prog 14 #[.slice A l.length cap] w fun e w' => e = .returned (.bool (hvB l)) ∧ Below w.heap.size w w' := by
  have H := Lib.hid h
  have HOK := Lib.hid hok
  clear h hok
  go_enter Tryz.func14, Tryz.ntmps14
  go_wp2_with fail
  go_loopw [3, 4] (fun n i wr => ∃ k : Nat, k ≤ l.length ∧ k ≤ 100 ∧ i = .int .i64 k ∧ n = .int .i64 (hvSum (l.take k) : Nat) ∧ Below w.heap.size w wr) (fun _ i _ => 100 - (intOf i).toNat)
  case atStart => exact ⟨0, by omega, by omega, rfl, rfl, Below.refl _ _⟩
  case round =>
    obtain ⟨k, hk, hk1, rfl, rfl, hbk⟩ := hrel
    have hsum := hvSum_le (l.take k) (fun a ha => HOK.out a (List.mem_of_mem_take ha))
    have hlk : (l.take k).length ≤ 100 := by simp; omega
    have hs63 : hvSum (l.take k) ≤ 100 * (56 * 140737488355328) := Nat.le_trans hsum (Nat.mul_le_mul_right _ hlk)
    by_cases hc : k < l.length ∧ k < 100
    · obtain ⟨hlt, h100⟩ := hc
      obtain ⟨a, ha⟩ : ∃ a, l[k]? = some a := ⟨l[k], List.getElem?_eq_getElem hlt⟩
      have hao := HOK.out a (List.mem_of_getElem? ha)
      have haw := HvA.w_le hao
      obtain ⟨b, o, rfl, hb, hcells⟩ := H.out (by omega)
      obtain ⟨c9, ⟨Pp, cp, c10⟩, R, cr, c7, hR⟩ := hcells k a ha
      have c9 := hv_below hbk hb c9
      have c10 := hv_below hbk hb c10
      have c7 := hv_below hbk hb c7
      have HR := Lib.hid hR
      have hts : l.take (k + 1) = l.take k ++ [a] := by
        rw [List.take_succ_eq_append_getElem hlt]
        have : l[k] = a := by rw [List.getElem?_eq_getElem hlt] at ha; injection ha
        rw [this]
      have HS := Lib.hid (show hvSum (l.take (k + 1)) = hvSum (l.take k) + a.w by rw [hts, hvSum_snoc])
      clear hts hcells ha hsum hlk hR
      generalize hvSum (l.take k) = n0 at *
      obtain ⟨h1, h2, h3, h4⟩ := hao
      have hR4 := Lib.hid h4
      clear h4
      have haw' : a.row.size + a.np + 4 * a.rows.length ≤ 56 * 140737488355328 := by unfold HvA.w at haw; omega
      go_wp2_with fail
      go_quiet (fail)
      go_wp2_with fail
      obtain ⟨wq, hwq⟩ : ∃ wq, wq = wr.drewN nq := ⟨_, rfl⟩
      have hbq : Below w.heap.size w wq := by rw [hwq]; exact ⟨hbk.os, hbk.tape, hbk.output, hbk.size, hbk.block⟩
      have c7q : wq.cell? ⟨b, o + k * 11 + 7, none⟩ = some (.slice R a.rows.length cr) := by rw [hwq]; exact c7
      rw [← hwq]
      obtain ⟨m, hm⟩ : ∃ m, m = n0 + a.row.size + a.np + 4 * a.rows.length := ⟨_, rfl⟩
      have em : (n0 : Int) + a.row.size + a.np + 4 * a.rows.length = (m : Int) := by omega
      rw [em]
      have hm2 : m ≤ 100 * (56 * 140737488355328) + 56 * 140737488355328 := by omega
      have HM := Lib.hid hm
      have hbwq : wr.heap.size = wq.heap.size := by rw [hwq]; rfl
      have c7q' : Below wq.heap.size wr wq := by rw [hwq]; exact ⟨rfl, rfl, rfl, Nat.le_refl _, fun _ _ => rfl⟩
      clear hm em c9 c10 c7 hwq haw' hbk hbwq c7q'
      go_loopw [3, 5] (fun n i wz => ∃ j : Nat, j ≤ a.rows.length ∧ j ≤ 50 ∧ i = .int .i64 j ∧ n = .int .i64 (m + sizes (a.rows.take j) : Nat) ∧ Below wq.heap.size wq wz) (fun _ i _ => 50 - (intOf i).toNat)
      case atStart => exact ⟨0, by omega, by omega, rfl, rfl, Below.refl _ _⟩
      case round =>
        obtain ⟨j, hj, hj1, rfl, rfl, hbj⟩ := hrel
        have hbl : b < wq.heap.size := Nat.lt_of_lt_of_le hb hbq.size
        have c7z := hv_below hbj hbl c7q
        have hsz := sizes_le (a.rows.take j) (fun s hs => hR4.out s (List.mem_of_mem_take hs))
        have hlj : (a.rows.take j).length ≤ 50 := by simp; omega
        have hsz2 : sizes (a.rows.take j) ≤ 50 * 140737488355328 := Nat.le_trans hsz (Nat.mul_le_mul_right _ hlj)
        by_cases hc2 : j < a.rows.length ∧ j < 50
        · obtain ⟨hlt2, h50⟩ := hc2
          obtain ⟨b3, o3, u, rfl, hb3, hb3l, hu, hc3⟩ := HR.out.at_ hlt2
          obtain ⟨s, hs⟩ : ∃ s, a.rows[j]? = some s := ⟨a.rows[j], List.getElem?_eq_getElem hlt2⟩
          have hu' : u = .string s := by
            have : (a.rows.map Value.string)[j]? = some (.string s) := by rw [List.getElem?_map, hs]; rfl
            rw [hu] at this; injection this
          rw [hu'] at hc3
          have hc3' := hv_below hbj (Nat.lt_of_lt_of_le hb3 hbq.size) (hv_below hbq hb3 hc3)
          have hss := hR4.out s (List.mem_of_getElem? hs)
          have hts : a.rows.take (j + 1) = a.rows.take j ++ [s] := by
            rw [List.take_succ_eq_append_getElem hlt2]
            have : a.rows[j] = s := by rw [List.getElem?_eq_getElem hlt2] at hs; injection hs
            rw [this]
          have HS2 := Lib.hid (show sizes (a.rows.take (j + 1)) = sizes (a.rows.take j) + s.size by rw [hts, sizes_snoc])
          clear hu hu' hc3 hs hts hsz hlj hb3
          generalize sizes (a.rows.take j) = n1 at *
          go_wp2_with fail
          go_roundw
          case rel => exact ⟨j + 1, hlt2, h50, by go_num, by rw [HS2.out]; go_num, hbj⟩
          case measure => simp [intOf]; omega
        · have e50 : a.rows.take j = a.rows.take 50 := by
            by_cases h50 : j = 50
            · rw [h50]
            · rw [List.take_of_length_le (by omega), List.take_of_length_le (by omega)]
          have HE : Hid (hvSum (l.take (k + 1)) = m + sizes (a.rows.take j)) := Lib.hid (by rw [HS.out, HM.out, e50]; unfold HvA.w; omega)
          clear e50 hsz hlj
          generalize sizes (a.rows.take j) = n1 at *
          by_cases hlt2 : j < a.rows.length
          · have h50 : ¬ j < 50 := fun h => hc2 ⟨hlt2, h⟩
            clear hc2
            go_wp2_with fail
            go_roundw
            case rel => exact ⟨k + 1, hlt, h100, by go_num, by rw [HE.out], hbq.trans (hbj.mono hbq.size)⟩
            case measure => simp [intOf]; omega
          · clear hc2
            go_wp2_with fail
            go_roundw
            case rel => exact ⟨k + 1, hlt, h100, by go_num, by rw [HE.out], hbq.trans (hbj.mono hbq.size)⟩
            case measure => simp [intOf]; omega
    · have e100 : l.take k = l.take 100 := by
        by_cases h100 : k = 100
        · rw [h100]
        · rw [List.take_of_length_le (by omega), List.take_of_length_le (by omega)]
      have HB : Hid (hvB l = (decide (60 < l.length) || decide (4000 < hvSum (l.take k)))) := Lib.hid (by rw [e100]; rfl)
      clear e100 hsum hlk
      generalize hvSum (l.take k) = n0 at *
      by_cases hlt : k < l.length
      · have h100 : ¬ k < 100 := fun h => hc ⟨hlt, h⟩
        have h60 : 60 < l.length := by omega
        clear hc
        go_wp2_with fail
        go_ret
        exact ⟨by rw [HB.out]; simp [h60], hbk⟩
      · clear hc
        by_cases h60 : 60 < l.length
        · go_wp2_with fail
          go_ret
          exact ⟨by rw [HB.out]; simp [h60], hbk⟩
        · go_wp2_with fail
          go_ret
          refine ⟨?_, hbk⟩
          rw [HB.out]
          simp only [h60, decide_false, Bool.false_or]
          have e1 : decide (60 < (l.length : Int)) = false := by rw [decide_eq_false_iff_not]; omega
          rw [e1, Bool.false_or]
          have e2 : decide (4000 < (n0 : Int)) = decide (4000 < n0) := decide_eq_decide.2 (by omega)
          rw [e2]
          rfl
end Go.Proofs.YtbpjgdbkmnhnmaaGreat

/- The walks of package pool at a nil pool, and New's errors. -/
namespace Go.Proofs.YtbpjgdbkmnhnmaaGreat
open Go.RowKit Go.Conc

abbrev pgX (k lv id lsn nx : Int) (A : Option Addr) (n c : Nat) : Value := .agg #[.int .u8 k, .int .u8 lv, .int .u32 id, .int .u64 lsn, .int .u32 nx, .slice A n c]

theorem new_nil_d (gl : Value) (a b n : Int) (w : World) : Calls Tryz.prog 15 #[.pointer none, gl, .int .i64 a, .int .i64 b, .int .i64 n] w fun e w' => e = .returned (.tuple #[.pointer none, .int .i64 1]) ∧ w' = w := by
  go_enter Tryz.func15, Tryz.ntmps15
  go_wp2_with fail
  go_ret2
  exact ⟨rfl, rfl⟩
theorem new_nil_l (gd : Nat) (a b n : Int) (w : World) : Calls Tryz.prog 15 #[ptr gd, .pointer none, .int .i64 a, .int .i64 b, .int .i64 n] w fun e w' => e = .returned (.tuple #[.pointer none, .int .i64 1]) ∧ w' = w := by
  go_enter Tryz.func15, Tryz.ntmps15
  go_wp2_with fail
  go_ret2
  exact ⟨rfl, rfl⟩
theorem new_arg (gd gl : Nat) (a b n : Int) (h : n < 1 ∨ 64 < n) (w : World) : Calls Tryz.prog 15 #[ptr gd, ptr gl, .int .i64 a, .int .i64 b, .int .i64 n] w fun e w' => e = .returned (.tuple #[.pointer none, .int .i64 2]) ∧ w' = w := by
  by_cases h1 : n < 1
  · clear h
    go_enter Tryz.func15, Tryz.ntmps15
    go_wp2_with fail
    go_ret2
    exact ⟨rfl, rfl⟩
  · have h2 : 64 < n := by omega
    clear h
    go_enter Tryz.func15, Tryz.ntmps15
    go_wp2_with fail
    go_ret2
    exact ⟨rfl, rfl⟩

theorem nil_pin (id : Int) (w : World) : Calls Tryz.prog 9 #[.pointer none, .int .u32 id] w fun e w' => e = .returned (.tuple #[zeroPgV, .int .i64 1]) ∧ Below w.heap.size w w' := by
  have HM := Lib.hid fun (W : World) => pool_made_nil W
  go_enter Tryz.func9, Tryz.ntmps9
  go_wp2_with fail
  refine (HM.out _).mono ?_
  rintro e w1 ⟨rfl, hw⟩
  subst w1
  go_wp2_with fail
  refine bodyPost_ret (v := .tuple #[zeroPgV, .int .i64 1]) (by rw [results_cell_tmp rfl]; go_simp) rfl ⟨rfl, ?_⟩
  exact (Below.refl _ _).alloc (Nat.le_refl _) _
theorem nil_put (k lv id lsn nx : Int) (A : Option Addr) (n c : Nat) (w : World) : Calls Tryz.prog 16 #[.pointer none, pgX k lv id lsn nx A n c] w fun e w' => e = .returned (.int .i64 1) ∧ Below w.heap.size w w' := by
  have HM := Lib.hid fun (W : World) => pool_made_nil W
  go_enter Tryz.func16, Tryz.ntmps16
  go_wp2_with fail
  refine (HM.out _).mono ?_
  rintro e w1 ⟨rfl, hw⟩
  subst w1
  go_wp2_with fail
  go_ret
  exact ⟨rfl, (Below.refl _ _).alloc (Nat.le_refl _) _⟩
theorem nil_fresh (k lv id lsn nx : Int) (A : Option Addr) (n c : Nat) (w : World) : Calls Tryz.prog 17 #[.pointer none, pgX k lv id lsn nx A n c] w fun e w' => e = .returned (.int .i64 1) ∧ Below w.heap.size w w' := by
  have HM := Lib.hid fun (W : World) => pool_made_nil W
  go_enter Tryz.func17, Tryz.ntmps17
  go_wp2_with fail
  refine (HM.out _).mono ?_
  rintro e w1 ⟨rfl, hw⟩
  subst w1
  go_wp2_with fail
  go_ret
  exact ⟨rfl, (Below.refl _ _).alloc (Nat.le_refl _) _⟩
theorem nil_unpin (id : Int) (w : World) : Calls Tryz.prog 10 #[.pointer none, .int .u32 id] w fun e w' => e = .returned (.int .i64 1) ∧ w' = w := by
  have HM := Lib.hid fun (W : World) => pool_made_nil W
  go_enter Tryz.func10, Tryz.ntmps10
  go_wp2_with fail
  refine (HM.out _).mono ?_
  rintro e w1 ⟨rfl, hw⟩
  subst w1
  go_wp2_with fail
  go_ret
  exact ⟨rfl, rfl⟩
theorem nil_flush (v : Value) (w : World) : Calls Tryz.prog 18 #[.pointer none, v] w fun e w' => e = .returned (.int .i64 1) ∧ w' = w := by
  have HM := Lib.hid fun (W : World) => pool_made_nil W
  go_enter Tryz.func18, Tryz.ntmps18
  go_wp2_with fail
  refine (HM.out _).mono ?_
  rintro e w1 ⟨rfl, hw⟩
  subst w1
  go_wp2_with fail
  go_ret
  exact ⟨rfl, rfl⟩
theorem nil_evict (id : Int) (w : World) : Calls Tryz.prog 19 #[.pointer none, .int .u32 id] w fun e w' => e = .returned (.int .i64 1) ∧ w' = w := by
  have HM := Lib.hid fun (W : World) => pool_made_nil W
  go_enter Tryz.func19, Tryz.ntmps19
  go_wp2_with fail
  refine (HM.out _).mono ?_
  rintro e w1 ⟨rfl, hw⟩
  subst w1
  go_wp2_with fail
  go_ret
  exact ⟨rfl, rfl⟩
theorem nil_pages (w : World) : Calls Tryz.prog 12 #[.pointer none] w fun e w' => e = .returned (.slice none 0 0) ∧ w' = w := by
  have HM := Lib.hid fun (W : World) => pool_made_nil W
  go_enter Tryz.func12, Tryz.ntmps12
  go_wp2_with fail
  refine (HM.out _).mono ?_
  rintro e w1 ⟨rfl, hw⟩
  subst w1
  go_wp2_with fail
  go_ret
  exact ⟨rfl, rfl⟩
theorem nil_pins (id : Int) (w : World) : Calls Tryz.prog 11 #[.pointer none, .int .u32 id] w fun e w' => e = .returned (.int .i64 0) ∧ w' = w := by
  have HM := Lib.hid fun (W : World) => pool_made_nil W
  go_enter Tryz.func11, Tryz.ntmps11
  go_wp2_with fail
  refine (HM.out _).mono ?_
  rintro e w1 ⟨rfl, hw⟩
  subst w1
  go_wp2_with fail
  go_ret
  exact ⟨rfl, rfl⟩
theorem nil_free (w : World) : Calls Tryz.prog 13 #[.pointer none] w fun e w' => e = .returned (.int .i64 0) ∧ w' = w := by
  have HM := Lib.hid fun (W : World) => pool_made_nil W
  go_enter Tryz.func13, Tryz.ntmps13
  go_wp2_with fail
  refine (HM.out _).mono ?_
  rintro e w1 ⟨rfl, hw⟩
  subst w1
  go_wp2_with fail
  go_ret
  exact ⟨rfl, rfl⟩
theorem nil_dirty (w : World) : Calls Tryz.prog 20 #[.pointer none] w fun e w' => e = .returned (.slice none 0 0) ∧ w' = w := by
  have HM := Lib.hid fun (W : World) => nil_pages W
  go_enter Tryz.func20, Tryz.ntmps20
  go_wp2_with fail
  refine (HM.out _).mono ?_
  rintro e w1 ⟨rfl, hw⟩
  subst w1
  go_wp2_with fail
  refine wp_loop_rounds 1 ?_
  rw [rounds_succ]
  go_wp2_with fail
  go_ret
  exact ⟨rfl, rfl⟩
end Go.Proofs.YtbpjgdbkmnhnmaaGreat

/- The walk of the law package pentimentolaw15: PoolNil. -/
namespace Go.Proofs.YtbpjgdbkmnhnmaaGreat
open Go.RowKit Go.Conc

/-- New, at whatever number of frames. -/
theorem new_any (gd gl : Nat) (n : Int) (w : World) : Calls Tryz.prog 15 #[ptr gd, ptr gl, .int .i64 8, .int .i64 44, .int .i64 n] w fun e w' => ∃ r c, e = .returned (.tuple #[r, .int .i64 c]) ∧ ((1 ≤ n ∧ n ≤ 64 ∧ c = 0) ∨ ((n < 1 ∨ 64 < n) ∧ c = 2)) ∧ Below w.heap.size w w' := by
  by_cases h : 1 ≤ n ∧ n ≤ 64
  · obtain ⟨m, rfl⟩ : ∃ m : Nat, n = m := ⟨n.toNat, by omega⟩
    refine (pool_new gd gl 8 44 m (by omega) (by omega) w).mono ?_
    rintro e w' ⟨gp, F, rfl, _, hb, _⟩
    exact ⟨_, 0, rfl, .inl ⟨h.1, h.2, rfl⟩, hb⟩
  · refine (new_arg gd gl 8 44 n (by omega) w).mono ?_
    rintro e w' ⟨rfl, rfl⟩
    exact ⟨_, 2, rfl, .inr ⟨by omega, rfl⟩, Below.refl _ _⟩

set_option maxRecDepth 100000 in
set_option maxHeartbeats 4000000 in
theorem law_nil (frames id k lv pid lsn nx : Int) (A : Option Addr) (c : Nat) (rows : List ByteArray) (hl : rows.length ≤ 140737488355328) (hok : ∀ s ∈ rows, s.size ≤ 140737488355328) (w : World) (h : Reads (fun b => b < w.heap.size) w 1 A rows.length (rows.map Value.string)) :
    Calls Tryz.prog 4 #[.int .i64 frames, .int .u32 id, pgX k lv pid lsn nx A rows.length c] w fun e w' => e = .returned (.bool true) ∧ Below w.heap.size w w' := by
  have H := Lib.hid h
  have HHV := Lib.hid fun (W : World) (g : Nat) (h : HvAt W (some ⟨g, 0, none⟩) [⟨.empty, 0, rows⟩]) => law_heavy (some ⟨g, 0, none⟩) 1 [⟨.empty, 0, rows⟩] (by simp) (fun a ha => by
    rw [List.mem_singleton.1 ha]
    exact ⟨by show 0 ≤ _; omega, by show 0 ≤ _; omega, hl, hok⟩) W h
  have HWK := Lib.hid fun (W : World) => law_works W
  have HB := Lib.hid fun (W : World) => law_begun 1 (by omega) (by omega) W
  clear h hok
  go_enter Tryz.func4, Tryz.ntmps4
  go_wp2_with fail
  have hN := Blk.new (w.alloc (.cells #[.int .u8 k, .int .u8 lv, .int .u32 pid, .int .u64 lsn, .int .u32 nx, .slice A rows.length c] 30)) 48 #[.int .u8 0, .int .u32 0, .int .u8 k, .int .u8 lv, .int .u32 pid, .int .u64 lsn, .int .u32 nx, .slice A rows.length c, .bool false, .string .empty, .slice none 0 0]
  rw [World.size_alloc] at hN
  have hb2 := ((Below.refl w.heap.size w).alloc (Nat.le_refl _) (.cells #[.int .u8 k, .int .u8 lv, .int .u32 pid, .int .u64 lsn, .int .u32 nx, .slice A rows.length c] 30)).alloc (by simp) (.cells #[.int .u8 0, .int .u32 0, .int .u8 k, .int .u8 lv, .int .u32 pid, .int .u64 lsn, .int .u32 nx, .slice A rows.length c, .bool false, .string .empty, .slice none 0 0] 48)
  have hX := (Blk.new w 30 #[.int .u8 k, .int .u8 lv, .int .u32 pid, .int .u64 lsn, .int .u32 nx, .slice A rows.length c]).alloc (.cells #[.int .u8 0, .int .u32 0, .int .u8 k, .int .u8 lv, .int .u32 pid, .int .u64 lsn, .int .u32 nx, .slice A rows.length c, .bool false, .string .empty, .slice none 0 0] 48)
  have hHV := HHV.out _ _ (show HvAt _ _ [⟨.empty, 0, rows⟩] from fun _ => ⟨_, _, rfl, hN.lt, fun i a ha => by
    match i, ha with
    | 0, ha =>
      injection ha with ha
      subst ha
      exact ⟨hN.cell 9, ⟨_, _, hN.cell 10⟩, _, _, hN.cell 7, (H.out.below hb2).mono (fun b hb => Nat.lt_of_lt_of_le hb hb2.size)⟩⟩)
  have HV := Lib.hid hHV
  clear hHV HHV hN
  obtain ⟨w2, hw2⟩ : ∃ w2, w2 = ((w.alloc (.cells #[.int .u8 k, .int .u8 lv, .int .u32 pid, .int .u64 lsn, .int .u32 nx, .slice A rows.length c] 30)).alloc (.cells #[.int .u8 0, .int .u32 0, .int .u8 k, .int .u8 lv, .int .u32 pid, .int .u64 lsn, .int .u32 nx, .slice A rows.length c, .bool false, .string .empty, .slice none 0 0] 48)) := ⟨_, rfl⟩
  rw [← hw2] at HV hb2 hX
  have HV' : Hid (Calls Tryz.prog 14 #[.slice (some ⟨w.heap.size + 1, 0, none⟩) 1 1] w2 fun e w' => e = .returned (.bool (hvB [⟨.empty, 0, rows⟩])) ∧ Below w2.heap.size w2 w') := HV
  clear HV
  change Calls Tryz.prog 14 #[.slice (some ⟨w.heap.size + 1, 0, none⟩) 1 1] ((w.alloc (.cells #[.int .u8 k, .int .u8 lv, .int .u32 pid, .int .u64 lsn, .int .u32 nx, .slice A rows.length c] 30)).alloc (.cells #[.int .u8 0, .int .u32 0, .int .u8 k, .int .u8 lv, .int .u32 pid, .int .u64 lsn, .int .u32 nx, .slice A rows.length c, .bool false, .string .empty, .slice none 0 0] 48)) _
  rw [← hw2]
  clear hw2
  refine HV'.out.mono ?_
  rintro e w3 ⟨rfl, hb3⟩
  have hX3 := hX.below hb3 hX.lt
  have hbw3 := hb2.trans (hb3.mono hb2.size)
  clear HV' hX hb3 hb2 H
  generalize hvB [⟨.empty, 0, rows⟩] = hv at *
  obtain ⟨gx, hgx⟩ : ∃ g, g = w.heap.size := ⟨_, rfl⟩
  rw [← hgx] at hX3
  cases hv with
  | true =>
    clear hX3 hgx
    go_wp2_with fail
    refine (HWK.out w3).mono ?_
    rintro e w4 ⟨rfl, hb4⟩
    have hbw4 := Lib.hid (hbw3.trans (hb4.mono hbw3.size))
    clear hb4 hbw3
    go_wp2_with fail
    go_ret
    exact ⟨rfl, hbw4.out⟩
  | false =>
    go_wp2_with fail
    refine (HB.out w3).mono ?_
    rintro e w4 hpost
    obtain ⟨gP, gr, gd, gl, gp, rfl, hP, hb, hL⟩ := begun_lp hpost
    have hX4 := hX3.below hb hX3.lt
    have hbw4 := hbw3.trans (hb.mono hbw3.size)
    have HX := Lib.hid hX4
    have HP := Lib.hid hP
    clear hpost HB hL hb hX3 hX4 hbw3 hP
    go_wp2_with fail
    have hS : Hid (w4.drew.cell? ⟨gP, 0, none⟩ = some (ptr gd) ∧ w4.drew.cell? ⟨gP, 1, none⟩ = some (ptr gl)) := Lib.hid ⟨HP.out.cell 0, HP.out.cell 1⟩
    refine R_begin (fun W => W.cell? ⟨gP, 0, none⟩ = some (ptr gd) ∧ W.cell? ⟨gP, 1, none⟩ = some (ptr gl)) (fun _ => false) rfl ?_
    refine R_take 0 26 (v := ?_) rfl rfl (by rfl) (by kernel_rfl) (fun _ _ _ h => h) hS.out ?_ ?_
    rotate_left
    · intro w hSw; (try dsimp only at hSw); go_simp; (try with_reducible rfl)
    simp only [List.setIfInBounds_toArray, List.set_cons_zero, List.set_cons_succ]
    refine R_take 1 27 (v := ?_) rfl rfl (by rfl) (by kernel_rfl) (fun _ _ _ h => h) hS.out ?_ ?_
    rotate_left
    · intro w hSw; (try dsimp only at hSw); go_simp; (try with_reducible rfl)
    simp only [List.setIfInBounds_toArray, List.set_cons_zero, List.set_cons_succ]
    refine R_take 2 28 (v := ?_) rfl rfl (by rfl) (by kernel_rfl) (fun _ _ _ h => h) hS.out ?_ ?_
    rotate_left
    · intro w hSw; (try dsimp only at hSw); go_simp; (try with_reducible rfl)
    simp only [List.setIfInBounds_toArray, List.set_cons_zero, List.set_cons_succ]
    refine R_take 3 29 (v := ?_) rfl rfl (by rfl) (by kernel_rfl) (fun _ _ _ h => h) hS.out ?_ ?_
    rotate_left
    · intro w hSw; (try dsimp only at hSw); go_simp; (try with_reducible rfl)
    simp only [List.setIfInBounds_toArray, List.set_cons_zero, List.set_cons_succ]
    refine R_take 4 30 (v := ?_) rfl rfl (by rfl) (by kernel_rfl) (fun _ _ _ h => h) hS.out ?_ ?_
    rotate_left
    · intro w hSw; (try dsimp only at hSw); go_simp; (try with_reducible rfl)
    simp only [List.setIfInBounds_toArray, List.set_cons_zero, List.set_cons_succ]
    refine R_take 5 31 (v := ?_) rfl rfl (by rfl) (by kernel_rfl) (fun _ _ _ h => h) hS.out ?_ ?_
    rotate_left
    · intro w hSw; (try dsimp only at hSw); go_simp; (try with_reducible rfl)
    simp only [List.setIfInBounds_toArray, List.set_cons_zero, List.set_cons_succ]
    refine R_take 6 32 (v := ?_) rfl rfl (by rfl) (by kernel_rfl) (fun _ _ _ h => h) hS.out ?_ ?_
    rotate_left
    · intro w hSw; (try dsimp only at hSw); go_simp; (try with_reducible rfl)
    simp only [List.setIfInBounds_toArray, List.set_cons_zero, List.set_cons_succ]
    refine R_take 7 33 (v := ?_) rfl rfl (by rfl) (by kernel_rfl) (fun _ _ _ h => h) hS.out ?_ ?_
    rotate_left
    · intro w hSw; (try dsimp only at hSw); go_simp; (try with_reducible rfl)
    simp only [List.setIfInBounds_toArray, List.set_cons_zero, List.set_cons_succ]
    refine R_take 8 34 (v := ?_) rfl rfl (by rfl) (by kernel_rfl) (fun _ _ _ h => h) hS.out ?_ ?_
    rotate_left
    · intro w hSw; (try dsimp only at hSw); go_simp; (try with_reducible rfl)
    simp only [List.setIfInBounds_toArray, List.set_cons_zero, List.set_cons_succ]
    refine R_call 9 35 (w' := w4.drew) rfl rfl (by rfl) (by kernel_rfl) ?_ (new_any gd gl frames w4.drew) ?_
    · go_simp
    rintro e w5 ⟨r, cc, rfl, hcc, hb5⟩
    have hP5 := HP.out.drew.below hb5 HP.out.lt
    have hX5 := HX.out.drew.below hb5 HX.out.lt
    have hbw5 : Below w.heap.size w w5 := hbw4.trans ((show Below w4.heap.size w4 w5 from ⟨hb5.os, hb5.tape, hb5.output, hb5.size, hb5.block⟩).mono hbw4.size)
    have hS5 : w5.cell? ⟨gP, 0, none⟩ = some (ptr gd) ∧ w5.cell? ⟨gP, 1, none⟩ = some (ptr gl) := ⟨hP5.cell 0, hP5.cell 1⟩
    refine ⟨_, rfl, fun _ => hS5, ?_⟩
    simp only [List.setIfInBounds_toArray, List.set_cons_zero, List.set_cons_succ]
    have hS2 := Lib.hid hS5
    have HX5 := Lib.hid hX5
    have HP5 := Lib.hid hP5
    clear hS HX HP hb5 hbw4 hS5 hX5 hP5
    refine R_take 10 25 (v := ?_) rfl rfl (by rfl) (by kernel_rfl) (fun _ _ _ h => h) hS2.out ?_ ?_
    rotate_left
    · intro w hSw; (try dsimp only at hSw); go_simp; (try with_reducible rfl)
    simp only [List.setIfInBounds_toArray, List.set_cons_zero, List.set_cons_succ]
    refine R_take 11 36 (v := ?_) rfl rfl (by rfl) (by kernel_rfl) (fun _ _ _ h => h) hS2.out ?_ ?_
    rotate_left
    · intro w hSw; (try dsimp only at hSw); go_simp; (try with_reducible rfl)
    simp only [List.setIfInBounds_toArray, List.set_cons_zero, List.set_cons_succ]
    refine R_take 12 37 (v := ?_) rfl rfl (by rfl) (by kernel_rfl) (fun _ _ _ h => h) hS2.out ?_ ?_
    rotate_left
    · intro w hSw; (try dsimp only at hSw); go_simp; (try with_reducible rfl)
    simp only [List.setIfInBounds_toArray, List.set_cons_zero, List.set_cons_succ]
    refine R_take 13 8 (v := ?_) rfl rfl (by rfl) (by kernel_rfl) (fun _ _ _ h => h) hS2.out ?_ ?_
    rotate_left
    · intro w hSw; (try dsimp only at hSw); go_simp; (try with_reducible rfl)
    simp only [List.setIfInBounds_toArray, List.set_cons_zero, List.set_cons_succ]
    refine R_take 14 9 (v := ?_) rfl rfl (by rfl) (by kernel_rfl) (fun _ _ _ h => h) hS2.out ?_ ?_
    rotate_left
    · intro w hSw; (try dsimp only at hSw); go_simp; (try with_reducible rfl)
    simp only [List.setIfInBounds_toArray, List.set_cons_zero, List.set_cons_succ]
    refine R_done (by kernel_rfl) ?_ _
    rename_i K9 hK9
    refine hK9 _ _ ?_
    clear hK9
    obtain ⟨p0, p1⟩ := hS2.out
    clear hS2
    have HND := Lib.hid fun (W : World) => new_nil_d (ptr gl) 8 44 1 W
    have HNL := Lib.hid fun (W : World) => new_nil_l gd 8 44 1 W
    have HPI := Lib.hid fun (W : World) => nil_pin id W
    go_wp2_with fail
    refine (HND.out _).mono ?_
    rintro e w6 ⟨rfl, hw⟩
    subst w6
    go_wp2_with fail
    refine (HNL.out _).mono ?_
    rintro e w6 ⟨rfl, hw⟩
    subst w6
    go_wp2_with fail
    refine (HPI.out _).mono ?_
    rintro e w6 ⟨rfl, hb6⟩
    have hX6 := HX5.out.below hb6 HX5.out.lt
    have hbw6 := hbw5.trans (hb6.mono hbw5.size)
    rw [← hgx]
    clear hb6 hbw5 HX5 HP5 p0 p1 HND HNL HPI
    have hX7 := hX6.alloc (.cells #[.int .u8 0, .int .u8 0, .int .u32 0, .int .u64 0, .int .u32 0, .slice none 0 0] 30)
    have x0 := hX6.cell 0
    have x1 := hX6.cell 1
    have x2 := hX6.cell 2
    have x3 := hX6.cell 3
    have x4 := hX6.cell 4
    have x5 := hX6.cell 5
    have hgl := hX6.lt
    simp only [List.getElem?_toArray, List.getElem?_cons_succ, List.getElem?_cons_zero] at x0 x1 x2 x3 x4 x5
    have hbw7 := hbw6.alloc hbw6.size (.cells #[.int .u8 0, .int .u8 0, .int .u32 0, .int .u64 0, .int .u32 0, .slice none 0 0] 30)
    have HX7 := Lib.hid hX7
    have HBW7 := Lib.hid hbw7
    clear hX6 hX7 hgx hbw6 hbw7
    have HPU := Lib.hid fun (W : World) => nil_put k lv pid lsn nx A rows.length c W
    have HFR := Lib.hid fun (W : World) => nil_fresh k lv pid lsn nx A rows.length c W
    have HUN := Lib.hid fun (W : World) => nil_unpin id W
    have HFL := Lib.hid fun (v : Value) (W : World) => nil_flush v W
    have HEV := Lib.hid fun (W : World) => nil_evict id W
    have HPG := Lib.hid fun (W : World) => nil_pages W
    have HPI := Lib.hid fun (W : World) => nil_pins id W
    have HDI := Lib.hid fun (W : World) => nil_dirty W
    have HFE := Lib.hid fun (W : World) => nil_free W
    rcases hcc with ⟨hf1, hf2, rfl⟩ | ⟨hf1 | hf1, rfl⟩
    all_goals
      first | have hz : decide (frames ≤ 64) = false := by rw [decide_eq_false_iff_not]; omega | skip
      go_wp2_with fail
      refine (HPU.out _).mono ?_
      rintro e w8 ⟨rfl, hb8⟩
      have HX8 := Lib.hid (HX7.out.below hb8 HX7.out.lt)
      have HBW8 := Lib.hid (HBW7.out.trans (hb8.mono HBW7.out.size))
      clear hb8 x0 x1 x2 x3 x4 x5 HX7 HBW7 HPU
      have x0 := HX8.out.cell 0
      have x1 := HX8.out.cell 1
      have x2 := HX8.out.cell 2
      have x3 := HX8.out.cell 3
      have x4 := HX8.out.cell 4
      have x5 := HX8.out.cell 5
      simp only [List.getElem?_toArray, List.getElem?_cons_succ, List.getElem?_cons_zero] at x0 x1 x2 x3 x4 x5
      go_wp2_with fail
      refine (HFR.out _).mono ?_
      rintro e w9 ⟨rfl, hb9⟩
      have HBW9 := Lib.hid (HBW8.out.trans (hb9.mono HBW8.out.size))
      clear hb9 x0 x1 x2 x3 x4 x5 HX8 HBW8 HFR hgl
      go_wp2_with fail
      refine (HUN.out _).mono ?_
      rintro e w10 ⟨rfl, hw⟩
      subst w10
      go_wp2_with fail
      refine (HFL.out _ _).mono ?_
      rintro e w10 ⟨rfl, hw⟩
      subst w10
      go_wp2_with fail
      refine (HEV.out _).mono ?_
      rintro e w10 ⟨rfl, hw⟩
      subst w10
      go_wp2_with fail
      refine (HPG.out _).mono ?_
      rintro e w10 ⟨rfl, hw⟩
      subst w10
      go_wp2_with fail
      refine (HPI.out _).mono ?_
      rintro e w10 ⟨rfl, hw⟩
      subst w10
      go_wp2_with fail
      refine (HDI.out _).mono ?_
      rintro e w10 ⟨rfl, hw⟩
      subst w10
      go_wp2_with fail
      refine (HFE.out _).mono ?_
      rintro e w10 ⟨rfl, hw⟩
      subst w10
      have HBW10 := Lib.hid (HBW9.out.alloc HBW9.out.size (.cells #[.int .u32 id] 26))
      go_wp2_with fail
      refine (HWK.out _).mono ?_
      rintro e w10 ⟨rfl, hb10⟩
      have HBW11 := Lib.hid (HBW10.out.trans (hb10.mono HBW10.out.size))
      clear hb10 HBW10 HBW9
      go_wp2_with fail
      go_ret
      exact ⟨rfl, HBW11.out⟩
end Go.Proofs.YtbpjgdbkmnhnmaaGreat
