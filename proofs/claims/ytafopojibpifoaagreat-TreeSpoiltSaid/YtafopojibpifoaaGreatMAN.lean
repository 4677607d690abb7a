/- The walk of the law package pentimentolaw18: fit: may rows as they come in be a tree's of few pages? -/
import Derived.Test.YtafopojibpifoaaGreatMAJ
import Derived.Test.YtafopojibpifoaaGreatMAI
import Derived.Test.YtafopojibpifoaaGreatMAF
import Derived.Test.YtafopojibpifoaaGreatMAM
import Derived.Deep.DeepCutAuto

namespace Go.Proofs.YtafopojibpifoaaGreat
open Go.RowKit

namespace Sp
/-- A row as it comes in: its pad is any number. -/
structure Rx where
  key : Bs
  mark : Bool
  tx : Nat
  page : Nat
  slot : Nat
  value : Bs
  pad : Int
instance : Inhabited Rx := ⟨⟨[], false, 0, 0, 0, [], 0⟩⟩
def Rx.ok (r : Rx) : Prop := 1 ≤ r.key.length ∧ r.key.length ≤ 48 ∧ 0 ≤ r.pad ∧ r.pad ≤ 96 ∧ r.value.length ≤ 96 ∧ (r.value.length : Int) + r.pad ≤ 96 ∧ r.page ≤ 1024 ∧ (r.page = 0 → r.slot = 0)
def Rx.rw (r : Rx) : Rw := ⟨r.key, r.mark, r.tx, r.page, r.slot, r.value, r.pad.toNat⟩
theorem Rx.ok_may {r : Rx} (h : r.ok) : r.rw.may := by
  obtain ⟨h1, h2, h3, h4, h5, h6, h7, h8⟩ := h
  refine ⟨h1, h2, ?_, h7, h8⟩
  show r.value.length + r.pad.toNat ≤ 96
  omega
/-- Which rows may be a tree's of so few pages. -/
def Fit (l : List Rx) : Prop := (∀ r ∈ l, r.ok) ∧ Rises (l.map (·.key)) ∧ l.length ≤ 8
theorem rises_adj {l : List Bs} (h : ∀ j (hj : j + 1 < l.length), l[j] < l[j + 1]) : Rises l := by
  unfold Rises
  rw [List.pairwise_iff_getElem]
  intro i j hi hj hij
  induction j with
  | zero => omega
  | succ j ih =>
    by_cases e : i = j
    · subst e; exact h i hj
    · exact ltB_trans (ih (by omega) (by omega)) (h j hj)
end Sp
abbrev rxCs (r : Sp.Rx) : List Value := [str r.key, .bool r.mark, .int .u64 r.tx, .int .u32 r.page, .int .u16 r.slot, str r.value, .int .i64 r.pad]
abbrev rxV (r : Sp.Rx) : Value := .agg #[str r.key, .bool r.mark, .int .u64 r.tx, .int .u32 r.page, .int .u16 r.slot, str r.value, .int .i64 r.pad]
theorem rxV_ok {r : Sp.Rx} (h : r.ok) : rxV r = rwV r.rw ∧ rxCs r = rwCs r.rw := by
  have hp : ((r.pad.toNat : Nat) : Int) = r.pad := Int.toNat_of_nonneg h.2.2.1
  constructor
  · show rxV r = Value.agg #[str r.key, .bool r.mark, .int .u64 r.tx, .int .u32 r.page, .int .u16 r.slot, str r.value, Value.int .i64 ((r.pad.toNat : Nat) : Int)]
    rw [hp]
  · show rxCs r = [str r.key, .bool r.mark, .int .u64 r.tx, .int .u32 r.page, .int .u16 r.slot, str r.value, Value.int .i64 ((r.pad.toNat : Nat) : Int)]
    rw [hp]

set_option maxRecDepth 100000 in
set_option maxHeartbeats 4000000 in
theorem ref07_may_no (r : Sp.Rx) (h : ¬ r.ok) (hv : r.value.length < 140737488355329) (hp : r.pad < 9223372036854775808) (w : World) : Calls Tryz.prog 35 #[rxV r] w fun e w' => e = .returned (.bool false) ∧ Below w.heap.size w w' := by
  obtain ⟨key, mark, tx, page, slot, value, pad⟩ := r
  unfold Sp.Rx.ok at h
  dsimp only at h hv hp
  have cs : (decide ((key.length : Int) < 1) = true) ∨ (decide ((key.length : Int) < 1) = false ∧ decide ((48 : Int) < key.length) = true) ∨
      (decide ((key.length : Int) < 1) = false ∧ decide ((48 : Int) < key.length) = false ∧ decide (pad < 0) = true) ∨
      (decide ((key.length : Int) < 1) = false ∧ decide ((48 : Int) < key.length) = false ∧ decide (pad < 0) = false ∧ decide (96 < pad) = true) ∨
      (decide ((key.length : Int) < 1) = false ∧ decide ((48 : Int) < key.length) = false ∧ decide (pad < 0) = false ∧ decide (96 < pad) = false ∧ decide ((96 : Int) < value.length) = true) ∨
      (decide ((key.length : Int) < 1) = false ∧ decide ((48 : Int) < key.length) = false ∧ decide (pad < 0) = false ∧ decide (96 < pad) = false ∧ decide ((96 : Int) < value.length) = false ∧ decide ((96 : Int) < (value.length : Int) + pad) = true) ∨
      (decide ((key.length : Int) < 1) = false ∧ decide ((48 : Int) < key.length) = false ∧ decide (pad < 0) = false ∧ decide (96 < pad) = false ∧ decide ((96 : Int) < value.length) = false ∧ decide ((96 : Int) < (value.length : Int) + pad) = false ∧ decide ((page : Int) ≤ 1024) = false) ∨
      (decide ((key.length : Int) < 1) = false ∧ decide ((48 : Int) < key.length) = false ∧ decide (pad < 0) = false ∧ decide (96 < pad) = false ∧ decide ((96 : Int) < value.length) = false ∧ decide ((96 : Int) < (value.length : Int) + pad) = false ∧ page = 0 ∧ decide ((slot : Int) = 0) = false ∧ ((slot : Int) == 0) = false) := by
    by_cases a1 : key.length < 1
    · exact .inl (by rw [decide_eq_true_eq]; omega)
    by_cases a2 : 48 < key.length
    · exact .inr (.inl ⟨by rw [decide_eq_false_iff_not]; omega, by rw [decide_eq_true_eq]; omega⟩)
    by_cases a3 : pad < 0
    · exact .inr (.inr (.inl ⟨by rw [decide_eq_false_iff_not]; omega, by rw [decide_eq_false_iff_not]; omega, by rw [decide_eq_true_eq]; omega⟩))
    by_cases a4 : 96 < pad
    · exact .inr (.inr (.inr (.inl ⟨by rw [decide_eq_false_iff_not]; omega, by rw [decide_eq_false_iff_not]; omega, by rw [decide_eq_false_iff_not]; omega, by rw [decide_eq_true_eq]; omega⟩)))
    by_cases a5 : 96 < value.length
    · exact .inr (.inr (.inr (.inr (.inl ⟨by rw [decide_eq_false_iff_not]; omega, by rw [decide_eq_false_iff_not]; omega, by rw [decide_eq_false_iff_not]; omega, by rw [decide_eq_false_iff_not]; omega, by rw [decide_eq_true_eq]; omega⟩))))
    by_cases a6 : 96 < (value.length : Int) + pad
    · exact .inr (.inr (.inr (.inr (.inr (.inl ⟨by rw [decide_eq_false_iff_not]; omega, by rw [decide_eq_false_iff_not]; omega, by rw [decide_eq_false_iff_not]; omega, by rw [decide_eq_false_iff_not]; omega, by rw [decide_eq_false_iff_not]; omega, by rw [decide_eq_true_eq]; omega⟩)))))
    by_cases a7 : page ≤ 1024
    · have a8 : page = 0 ∧ slot ≠ 0 := by
        by_cases e : page = 0
        · refine ⟨e, fun e2 => h ⟨by omega, by omega, by omega, by omega, by omega, by omega, a7, fun _ => e2⟩⟩
        · exact absurd ⟨by omega, by omega, by omega, by omega, by omega, by omega, a7, fun e2 => absurd e2 e⟩ h
      exact .inr (.inr (.inr (.inr (.inr (.inr (.inr ⟨by rw [decide_eq_false_iff_not]; omega, by rw [decide_eq_false_iff_not]; omega, by rw [decide_eq_false_iff_not]; omega, by rw [decide_eq_false_iff_not]; omega, by rw [decide_eq_false_iff_not]; omega, by rw [decide_eq_false_iff_not]; omega, a8.1, by rw [decide_eq_false_iff_not]; have := a8.2; omega, by rw [beq_eq_false_iff_ne]; have := a8.2; omega⟩))))))
    · exact .inr (.inr (.inr (.inr (.inr (.inr (.inl ⟨by rw [decide_eq_false_iff_not]; omega, by rw [decide_eq_false_iff_not]; omega, by rw [decide_eq_false_iff_not]; omega, by rw [decide_eq_false_iff_not]; omega, by rw [decide_eq_false_iff_not]; omega, by rw [decide_eq_false_iff_not]; omega, by rw [decide_eq_false_iff_not]; omega⟩))))))
  clear h
  rcases cs with d1 | ⟨d1, d2⟩ | ⟨d1, d2, d3⟩ | ⟨d1, d2, d3, d4⟩ | ⟨d1, d2, d3, d4, d5⟩ | ⟨d1, d2, d3, d4, d5, d6⟩ | ⟨d1, d2, d3, d4, d5, d6, d7⟩ | ⟨d1, d2, d3, d4, d5, d6, d7, d8, d9⟩
  all_goals
    try subst d7
    try (have d3' := of_decide_eq_false d3)
    try (have d4' := of_decide_eq_false d4)
    try (have d5' := of_decide_eq_false d5)
    go_enter Tryz.func35, Tryz.ntmps35
    go_wp2_with fail
    go_ret
    exact ⟨rfl, (Below.refl _ _).alloc (Nat.le_refl _) _⟩

set_option maxRecDepth 100000 in
set_option maxHeartbeats 1000000 in
theorem ref07_encode_no (r : Sp.Rx) (h : ¬ r.ok) (hv : r.value.length < 140737488355329) (hp : r.pad < 9223372036854775808) (w : World) : Calls Tryz.prog 19 #[rxV r] w fun e w' => e = .returned (.tuple #[str [], .int .i64 2]) ∧ Below w.heap.size w w' := by
  have HM := Lib.hid fun (W : World) => ref07_may_no r h hv hp W
  have hb1 := (Below.refl w.heap.size w).alloc (Nat.le_refl _) (.cells (rxCs r).toArray 43)
  clear h hv hp
  go_enter Tryz.func19, Tryz.ntmps19
  go_wp2_with fail
  refine (HM.out _).mono ?_
  rintro e w1 ⟨rfl, hb2⟩
  have hb := hb1.trans (hb2.mono (by simp))
  clear HM hb1 hb2
  go_wp2_with fail
  go_ret2
  exact ⟨rfl, hb⟩

set_option maxRecDepth 100000 in
theorem ref03_compareN (a b : Sp.Bs) (w : World) (ha : a.length < 9223372036854775807) : Calls Tryz.prog 13 #[str a, str b] w fun e w' => e = .returned (.int .i64 (Lib.compareBytes a b)) ∧ ∃ n, w' = w.drewN n := by
  go_enter Tryz.func13, Tryz.ntmps13
  go_wp2_with fail
  go_loopw [5] (fun i wr => ∃ k : Nat, k ≤ a.length ∧ k ≤ b.length ∧ i = .int .i64 k ∧ a.take k = b.take k ∧ ∃ n, wr = w.drewN n) (fun i _ => a.length - (intOf i).toNat)
  case atStart => exact ⟨0, by omega, by omega, rfl, by simp, 0, rfl⟩
  case round =>
    obtain ⟨k, hk, hk2, rfl, htk, n, hn⟩ := hrel
    have HN := Lib.hid hn
    clear hn
    have HF := Lib.hid (compare_from htk)
    by_cases hc : k < a.length ∧ k < b.length
    · obtain ⟨h1, h2⟩ := hc
      have ea : a.drop k = a[k] :: a.drop (k + 1) := List.drop_eq_getElem_cons h1
      have eb : b.drop k = b[k] :: b.drop (k + 1) := List.drop_eq_getElem_cons h2
      have hC : Lib.compareBytes a b = if a[k] < b[k] then -1 else if b[k] < a[k] then 1 else Lib.compareBytes (a.drop (k + 1)) (b.drop (k + 1)) := by rw [HF.out, ea, eb, Lib.compareBytes]
      have HC := Lib.hid hC
      clear hC ea eb HF
      have q1 : k < (⟨a.toArray⟩ : ByteArray).size := by rw [str_size]; exact h1
      have q2 : k < (⟨b.toArray⟩ : ByteArray).size := by rw [str_size]; exact h2
      by_cases h4 : a[k] < b[k]
      · have d1 : decide ((⟨a.toArray⟩ : ByteArray)[k].toNat < (⟨b.toArray⟩ : ByteArray)[k].toNat) = true := decide_eq_true (UInt8.lt_iff_toNat_lt.1 h4)
        go_wp2_with fail
        go_quiet (fail)
        go_wp2_with fail
        go_ret
        exact ⟨by rw [HC.out, if_pos h4]; rfl, _, by first | (rw [HN.out, World.drewN_drewN, World.drewN_drewN]) | (rw [HN.out, World.drewN_drewN])⟩
      · have d1 : decide ((⟨a.toArray⟩ : ByteArray)[k].toNat < (⟨b.toArray⟩ : ByteArray)[k].toNat) = false := decide_eq_false (fun h => h4 (UInt8.lt_iff_toNat_lt.2 h))
        by_cases h6 : b[k] < a[k]
        · have d2 : decide ((⟨b.toArray⟩ : ByteArray)[k].toNat < (⟨a.toArray⟩ : ByteArray)[k].toNat) = true := decide_eq_true (UInt8.lt_iff_toNat_lt.1 h6)
          go_wp2_with fail
          go_quiet (fail)
          go_wp2_with fail
          go_quiet (fail)
          go_wp2_with fail
          go_ret
          exact ⟨by rw [HC.out, if_neg h4, if_pos h6]; rfl, _, by first | (rw [HN.out, World.drewN_drewN, World.drewN_drewN]) | (rw [HN.out, World.drewN_drewN])⟩
        · have d2 : decide ((⟨b.toArray⟩ : ByteArray)[k].toNat < (⟨a.toArray⟩ : ByteArray)[k].toNat) = false := decide_eq_false (fun h => h6 (UInt8.lt_iff_toNat_lt.2 h))
          have e : a[k] = b[k] := UInt8.le_antisymm (UInt8.not_lt.1 h6) (UInt8.not_lt.1 h4)
          go_wp2_with fail
          go_quiet (fail)
          go_wp2_with fail
          go_quiet (fail)
          go_wp2_with fail
          go_roundw
          case rel => exact ⟨k + 1, h1, h2, by go_num, by rw [List.take_succ_eq_append_getElem h1, List.take_succ_eq_append_getElem h2, htk, e], _, by first | (rw [HN.out, World.drewN_drewN, World.drewN_drewN]) | (rw [HN.out, World.drewN_drewN])⟩
          case measure => simp [intOf]; omega
    · have hend : (a.length < b.length ∧ k = a.length) ∨ (b.length < a.length ∧ k = b.length) ∨ (a.length = b.length ∧ k = a.length) := by omega
      rcases hend with ⟨h1, rfl⟩ | ⟨h1, rfl⟩ | ⟨h1, rfl⟩
      · have hC : Lib.compareBytes a b = -1 := by
          rw [HF.out, List.drop_length, List.drop_eq_getElem_cons h1]; rfl
        go_wp2_with fail
        go_ret
        exact ⟨by rw [hC]; rfl, _, HN.out⟩
      · have hC : Lib.compareBytes a b = 1 := by
          rw [HF.out, List.drop_length, List.drop_eq_getElem_cons h1]; rfl
        go_wp2_with fail
        go_ret
        exact ⟨by rw [hC]; rfl, _, HN.out⟩
      · have hC : Lib.compareBytes a b = 0 := by
          rw [HF.out, List.drop_length, h1, List.drop_length]; rfl
        go_wp2_with fail
        go_ret
        exact ⟨by rw [hC]; rfl, _, HN.out⟩

theorem cmp_ge' (a b : Sp.Bs) : (a < b ∧ decide (0 ≤ Lib.compareBytes a b) = false) ∨ (¬ a < b ∧ decide (0 ≤ Lib.compareBytes a b) = true) := by
  by_cases h : a < b
  · exact .inl ⟨h, by rw [decide_eq_false_iff_not, Sp.cmp_ge]; exact fun h2 => h2 h⟩
  · exact .inr ⟨h, by rw [decide_eq_true_eq, Sp.cmp_ge]; exact h⟩
/-- Rows as they come in, in memory. -/
abbrev RxsAt (G : Foot) (w : World) (A : Option Addr) (l : List Sp.Rx) : Prop := Reads G w 7 A l.length (l.flatMap rxCs)
theorem rxs_get : ∀ (l : List Sp.Rx) (i j : Nat) (h : i < l.length), j < 7 → (l.flatMap rxCs)[i * 7 + j]? = (rxCs l[i])[j]?
  | [], i, j, h, _ => by simp at h
  | x :: l, 0, j, h, hj => by
    rw [Nat.zero_mul, Nat.zero_add, List.flatMap_cons, List.getElem?_append_left (by simpa using hj)]; rfl
  | x :: l, i + 1, j, h, hj => by
    rw [List.flatMap_cons, List.getElem?_append_right (by simp [Nat.succ_mul]; omega)]
    have e : (i + 1) * 7 + j - (rxCs x).length = i * 7 + j := by simp [Nat.succ_mul]; omega
    rw [e, rxs_get l i j (by simpa using h) hj]; rfl
theorem RxsAt.cells {G : Foot} {w : World} {A : Option Addr} {l : List Sp.Rx} (h : RxsAt G w A l) {i : Nat} (hi : i < l.length) : ∃ b o, A = some ⟨b, o, none⟩ ∧ b < w.heap.size ∧ w.cell? ⟨b, o + i * 7, none⟩ = some (str l[i].key) ∧ w.cell? ⟨b, o + i * 7 + 1, none⟩ = some (.bool l[i].mark) ∧ w.cell? ⟨b, o + i * 7 + 2, none⟩ = some (.int .u64 l[i].tx) ∧
    w.cell? ⟨b, o + i * 7 + 3, none⟩ = some (.int .u32 l[i].page) ∧ w.cell? ⟨b, o + i * 7 + 4, none⟩ = some (.int .u16 l[i].slot) ∧ w.cell? ⟨b, o + i * 7 + 5, none⟩ = some (str l[i].value) ∧ w.cell? ⟨b, o + i * 7 + 6, none⟩ = some (.int .i64 l[i].pad) := by
  obtain ⟨b, o, rfl, _, hb, hc⟩ := h.2 (by omega)
  have key : ∀ j (hj : j < 7), w.cell? ⟨b, o + i * 7 + j, none⟩ = (rxCs l[i])[j]? := fun j hj => by
    have e := rxs_get l i j hi hj
    have hx : (rxCs l[i])[j]? = some ((rxCs l[i])[j]'(by simpa using hj)) := List.getElem?_eq_getElem _
    rw [hx] at e ⊢
    have := hc (i * 7 + j) _ e
    rw [← Nat.add_assoc] at this; exact this
  exact ⟨b, o, rfl, hb, key 0 (by omega), key 1 (by omega), key 2 (by omega), key 3 (by omega), key 4 (by omega), key 5 (by omega), key 6 (by omega)⟩

theorem rx_encode (r : Sp.Rx) (htx : r.tx < 18446744073709551616 ∧ r.slot < 65536) (hv : r.value.length < 140737488355329) (hp : r.pad < 9223372036854775808) (w : World) :
    Calls Tryz.prog 19 #[rxV r] w fun e w' => ∃ s n, e = .returned (.tuple #[str s, .int .i64 n]) ∧ ((r.ok ∧ n = 0) ∨ (¬ r.ok ∧ n = 2)) ∧ Below w.heap.size w w' := by
  by_cases h : r.ok
  · rw [(rxV_ok h).1]
    exact (ref07_encodeP r.rw (Sp.Rx.ok_may h) htx w).mono fun e w' ⟨he, hb⟩ => ⟨_, 0, he, .inl ⟨h, rfl⟩, hb⟩
  · exact (ref07_encode_no r h hv hp w).mono fun e w' ⟨he, hb⟩ => ⟨_, 2, he, .inr ⟨h, rfl⟩, hb⟩

set_option maxRecDepth 100000 in
set_option maxHeartbeats 4000000 in
theorem law18_fit {w : World} {G : Foot} {l : List Sp.Rx} {A : Option Addr} {cap : Nat} (hR : RxsAt G w A l) (hok : ∀ r ∈ l, (r.tx < 18446744073709551616 ∧ r.slot < 65536) ∧ r.key.length < 140737488355329 ∧ r.value.length < 140737488355329 ∧ r.pad < 9223372036854775808) (hl : l.length ≤ 1000000) :
    Calls Tryz.prog 6 #[.slice A l.length cap] w fun e w' => ∃ bv : Bool, e = .returned (.bool bv) ∧ (bv = true ↔ Sp.Fit l) ∧ Below w.heap.size w w' := by
  have HR := Lib.hid hR
  have HOK := Lib.hid hok
  have HEN := Lib.hid fun (r : Sp.Rx) (h : (r.tx < 18446744073709551616 ∧ r.slot < 65536) ∧ r.key.length < 140737488355329 ∧ r.value.length < 140737488355329 ∧ r.pad < 9223372036854775808) (W : World) => rx_encode r h.1 h.2.2.1 h.2.2.2 W
  clear hR hok
  go_enter Tryz.func6, Tryz.ntmps6
  go_wp2_with fail
  go_loopw [3] (fun i wr => ∃ k : Nat, k ≤ l.length ∧ i = .int .i64 k ∧ (∀ j (h : j < l.length), j < k → l[j].ok) ∧ (∀ j (h : j + 1 < l.length), j + 1 < k → l[j].key < l[j + 1].key) ∧ Below w.heap.size w wr) (fun i _ => l.length - (intOf i).toNat)
  case atStart => exact ⟨0, by omega, rfl, fun j _ h => by omega, fun j _ h => by omega, Below.refl _ _⟩
  case round =>
    obtain ⟨k, hk, rfl, hmay, hrise, hb⟩ := hrel
    have HMAY := Lib.hid hmay
    have HRISE := Lib.hid hrise
    clear hmay hrise
    by_cases hlt : k < l.length
    · obtain ⟨b, o, rfl, hbl, c0, c1, c2, c3, c4, c5, c6⟩ := RxsAt.cells (HR.out.below hb) hlt
      have HE := Lib.hid (HEN.out l[k] (HOK.out _ (List.getElem_mem hlt)) wr)
      obtain ⟨r, hr⟩ : ∃ r, r = l[k] := ⟨_, rfl⟩
      rw [← hr] at c0 c1 c2 c3 c4 c5 c6 HE
      have HRE := Lib.hid hr
      clear hr
      go_wp2_with fail
      refine HE.out.mono ?_
      rintro e w2 ⟨s, n, rfl, hn, hb2⟩
      have hbw := hb.trans (hb2.mono hb.size)
      clear c0 c1 c2 c3 c4 c5 c6 HE
      rcases hn with ⟨hok, rfl⟩ | ⟨hno, rfl⟩
      · rcases Nat.eq_zero_or_pos k with h0 | h0
        · subst h0
          have HO := Lib.hid hok
          clear hok hb hb2
          go_wp2_with fail
          go_quiet (fail)
          go_wp2_with fail
          go_roundw
          case rel => exact ⟨1, hlt, by go_num, fun j h h2 => by
            have e : j = 0 := by omega
            subst e; rw [← HRE.out]; exact HO.out, fun j h h2 => by omega, Below.drewN hbw _⟩
          case measure => simp [intOf]; omega
        · obtain ⟨m, rfl⟩ : ∃ m, k = m + 1 := ⟨k - 1, by omega⟩
          have HO := Lib.hid hok
          obtain ⟨b', o', e', _, d0, _⟩ := RxsAt.cells (HR.out.below hbw) (show m < l.length by omega)
          obtain ⟨b'', o'', e'', _, x0, _⟩ := RxsAt.cells (HR.out.below hbw) hlt
          injection e' with e'
          injection e' with e1 e2
          injection e'' with e''
          injection e'' with e3 e4
          subst e1 e2 e3 e4
          rw [← HRE.out] at x0
          obtain ⟨p, hp⟩ : ∃ p, p = l[m] := ⟨_, rfl⟩
          rw [← hp] at d0
          have HPE := Lib.hid hp
          have hkl := (HOK.out p (by rw [hp]; exact List.getElem_mem _)).2.1
          have HC := Lib.hid fun (W : World) => ref03_compareN p.key r.key W (by omega)
          have hcg := cmp_ge' p.key r.key
          have wrm : IntKind.i64.wrap ((m : Nat) : Int) = m := by rw [IntKind.wrap_i64]; omega
          clear hp hok hb hb2
          rcases hcg with ⟨hlt', hd⟩ | ⟨hge', hd⟩
          · go_wp2_with fail
            go_quiet ((go_at_call 13; exact Calls.quiet_of (HC.out _)))
            go_wp2_with fail
            go_roundw
            case rel => exact ⟨m + 1 + 1, hlt, by go_num, fun j h h2 => by
              by_cases e : j = m + 1
              · subst e; rw [← HRE.out]; exact HO.out
              · exact HMAY.out j h (by omega), fun j h h2 => by
              by_cases e : j = m
              · subst e; rw [← HPE.out, ← HRE.out]; exact hlt'
              · exact HRISE.out j h (by omega), Below.drewN hbw _⟩
            case measure => simp [intOf]; omega
          · have hnf : ¬ Sp.Fit l := fun hf => hge' (by
              have := hf.2.1.lt (i := m) (j := m + 1) (by omega) (by simpa using hlt)
              simp only [List.getElem_map] at this
              rw [← HPE.out, ← HRE.out] at this
              exact this)
            have HNF := Lib.hid hnf
            clear hnf
            go_wp2_with fail
            go_quiet ((go_at_call 13; exact Calls.quiet_of (HC.out _)))
            go_wp2_with fail
            go_ret
            exact ⟨false, rfl, ⟨fun h => by simp at h, fun h => absurd h HNF.out⟩, Below.drewN hbw _⟩
      · have HNF : Hid (¬ Sp.Fit l) := Lib.hid fun hf => hno (by rw [HRE.out]; exact hf.1 _ (List.getElem_mem hlt))
        clear hno hb hb2
        go_wp2_with fail
        go_quiet (fail)
        go_wp2_with fail
        go_ret
        exact ⟨false, rfl, ⟨fun h => by simp at h, fun h => absurd h HNF.out⟩, Below.drewN hbw _⟩
    · obtain rfl : k = l.length := by omega
      have HF : Hid (decide ((l.length : Int) ≤ 8) = true ↔ Sp.Fit l) := Lib.hid (by
        rw [decide_eq_true_eq]
        constructor
        · intro h8
          refine ⟨fun r hr => ?_, Sp.rises_adj (fun j hj => ?_), by omega⟩
          · obtain ⟨j, hj, rfl⟩ := List.getElem_of_mem hr
            exact HMAY.out j hj hj
          · have hj' : j + 1 < l.length := by simpa using hj
            simp only [List.getElem_map]
            exact HRISE.out j hj' hj'
        · intro hf
          have := hf.2.2
          omega)
      go_wp2_with fail
      go_ret
      exact ⟨_, rfl, HF.out, hb⟩
end Go.Proofs.YtafopojibpifoaaGreat

/- A grown tree's answers: Get, Next, Check, all rows at once; how its pages are laid. -/
namespace Go.Proofs.YtafopojibpifoaaGreat
open Go.RowKit Go.Conc

namespace Sp
/-- The row at a key, or behind it. -/
def nxR (rs : List Rw) (k : Bs) (is : Bool) : Option Rw := rs[findK (keysR rs) k + if isK (keysR rs) k && !is then 1 else 0]?
/-- What a grown tree tells of a key. -/
theorem tell_grown {n : Nat} (hn : 1 ≤ n) {rs : List Rw} (hr : Rises (keysR rs)) (hkl : ∀ r ∈ rs, 1 ≤ r.key.length) (k : Bs) (f g : Nat) : ∃ l q ls, wayF (grownK n rs) k (f + 2) 1 = some (l, q) ∧ grownK n rs q = some (.leaf ls) ∧ getR ls k = getR rs k ∧ isK (keysR ls) k = isK (keysR rs) k ∧
    ∀ is : Bool, nextF (grown n rs) (grownK n rs) (g + 2) q (findK (keysR ls) k + if isK (keysR ls) k && !is then 1 else 0) = some (nxR rs k is) := by
  obtain ⟨l, q, ls, hw, _, hk, c, hc, hf, hi⟩ := way_grown hn hr hkl k f
  have hls : Rises (keysR ls) := by
    rcases hc with ⟨_, _, rfl, _⟩ | ⟨_, rfl, _, _⟩
    · exact hr
    · exact lvRows_rise hr c
  have hlk : (keysR ls).length = ls.length := by simp [keysR]
  have hat : ∀ j, j < ls.length → ls[j]? = rs[c * n + j]? := fun j hj => by
    rcases hc with ⟨_, rfl, rfl, _⟩ | ⟨_, rfl, h3, _⟩
    · simp
    · have h1 := lvRows_length n rs c
      have h2 : c * n + j < rs.length := by omega
      rw [List.getElem?_eq_getElem hj, lvRows_at hj h2, List.getElem?_eq_getElem h2]
  refine ⟨l, q, ls, hw, hk, ?_, hi.symm, fun is => ?_⟩
  · unfold getR
    rw [hi]
    cases hik : isK (keysR ls) k with
    | false => rfl
    | true =>
      obtain ⟨hlt, _⟩ := (isK_iff hls).1 hik
      simp only [if_true]
      rw [hf, hat _ (by rw [← hlk]; exact hlt)]
  · have hle := findK_le (keysR ls) k
    have ha : (findK (keysR ls) k + if isK (keysR ls) k && !is then 1 else 0) ≤ ls.length := by
      split
      · rename_i h
        have h' : isK (keysR ls) k = true := by
          cases hx : isK (keysR ls) k with
          | true => rfl
          | false => rw [hx] at h; cases h
        obtain ⟨hlt, _⟩ := (isK_iff hls).1 h'
        omega
      · omega
    rw [next_grown hn hc ha g]
    unfold nxR
    rw [hf, hi, Nat.add_assoc]
theorem findK_at {rs : List Rw} (hr : Rises (keysR rs)) {m : Nat} (hm : m < rs.length) : findK (keysR rs) rs[m].key = m ∧ isK (keysR rs) rs[m].key = true := by
  have hl : (keysR rs).length = rs.length := by simp [keysR]
  have hat : ∀ t (h : t < (keysR rs).length), (keysR rs)[t] = (rs[t]'(by omega)).key := fun t h => by simp [keysR]
  refine ⟨findK_of (ks := []) (by omega) (fun t h ht => ?_) (fun t h ht => ?_), ?_⟩
  · rw [hat]; exact keys_lt hr ht hm
  · rw [hat]
    rcases Nat.eq_or_lt_of_le ht with e | h1
    · subst e; exact ltB_irrefl _
    · exact ltB_asymm (keys_lt hr h1 (by omega))
  · unfold isK
    rw [decide_eq_true_eq]
    exact List.mem_map.2 ⟨_, List.getElem_mem hm, rfl⟩
theorem getR_at {rs : List Rw} (hr : Rises (keysR rs)) {m : Nat} (hm : m < rs.length) : getR rs rs[m].key = rs[m] := by
  obtain ⟨h1, h2⟩ := findK_at hr hm
  unfold getR
  rw [h2, h1, List.getElem?_eq_getElem hm]; rfl
/-- Whether a key was met so far. -/
theorem isK_take {rs : List Rw} {m : Nat} (hm : m < rs.length) (k : Bs) : isK (keysR (rs.take (m + 1))) k = (isK (keysR (rs.take m)) k || decide (rs[m].key = k)) := by
  rw [List.take_succ_eq_append_getElem hm]
  unfold isK keysR
  rw [List.map_append]
  have e : decide (rs[m].key = k) = decide (k = rs[m].key) := decide_eq_decide.2 ⟨fun h => h.symm, fun h => h.symm⟩
  rw [e]
  simp
/-- From where the row at a place is asked for. -/
def atK (rs : List Rw) (key : Bs) (f0 m : Nat) : Bs := if m ≤ f0 then key else (rs[m - 1]?.map (·.key)).getD []
theorem nx_at {rs : List Rw} (hr : Rises (keysR rs)) (key : Bs) {m : Nat} (h0 : findK (keysR rs) key ≤ m) (hm : m ≤ rs.length) : nxR rs (atK rs key (findK (keysR rs) key) m) (decide (m ≤ findK (keysR rs) key)) = rs[m]? := by
  unfold nxR atK
  by_cases e : m ≤ findK (keysR rs) key
  · have e2 : m = findK (keysR rs) key := by omega
    rw [if_pos e, decide_eq_true e]
    simp [← e2]
  · have hm1 : m - 1 < rs.length := by omega
    rw [if_neg e, decide_eq_false e, List.getElem?_eq_getElem hm1]
    obtain ⟨h1, h2⟩ := findK_at hr hm1
    show rs[findK (keysR rs) rs[m - 1].key + if isK (keysR rs) rs[m - 1].key && !false then 1 else 0]? = _
    rw [h1, h2]
    simp only [Bool.not_false, Bool.and_true, if_true]
    rw [Nat.sub_add_cancel (by omega)]
theorem atK_lo {rs : List Rw} {key : Bs} {f0 m : Nat} (h : m ≤ f0) : atK rs key f0 m = key := by unfold atK; rw [if_pos h]
theorem atK_hi {rs : List Rw} {key : Bs} {f0 m : Nat} (h : f0 ≤ m) (hm : m < rs.length) : atK rs key f0 (m + 1) = rs[m].key := by
  unfold atK
  rw [if_neg (by omega), Nat.add_sub_cancel, List.getElem?_eq_getElem hm]; rfl
/-- A row stands ahead of a key's place just if its key is below. -/
theorem cmp_place {rs : List Rw} (hr : Rises (keysR rs)) (key : Bs) {m : Nat} (hm : m < rs.length) : (m < findK (keysR rs) key ∧ decide (Lib.compareBytes rs[m].key key < 0) = true) ∨ (findK (keysR rs) key ≤ m ∧ decide (Lib.compareBytes rs[m].key key < 0) = false) := by
  have hl : m < (keysR rs).length := by simpa [keysR] using hm
  have hat : (keysR rs)[m] = rs[m].key := by simp [keysR]
  by_cases h : m < findK (keysR rs) key
  · refine .inl ⟨h, ?_⟩
    rw [decide_eq_true_eq, cmp_neg, ← hat]
    exact findK_lt hr m hl h
  · refine .inr ⟨by omega, ?_⟩
    rw [decide_eq_false_iff_not, cmp_neg, ← hat]
    exact findK_ge hr m hl (by omega)
theorem total_le {l : List Bs} {m : Nat} (h : ∀ s ∈ l, s.length ≤ m) : total l ≤ l.length * m := by
  induction l with
  | nil => simp [total]
  | cons x l ih =>
    have h1 := ih (fun s hs => h s (List.mem_cons_of_mem _ hs))
    have h2 := h x List.mem_cons_self
    simp only [total, List.length_cons] at *
    rw [Nat.succ_mul]
    simp_all
    omega
/-- A grown page's rows are few, its numbers small. -/
theorem grown_small {n : Nat} (hn : 1 ≤ n) {rs : List Rw} (h8 : rs.length ≤ 8) (hm : ∀ r ∈ rs, r.may ∧ r.wf) {q : Nat} (hq : q ≤ 12) : (grown n rs q).wf ∧ (grown n rs q).rows.length ≤ 1000000000 ∧ total (grown n rs q).rows ≤ 1000000000 := by
  have hle := lvN_le (n := n) (len := rs.length) hn
  have hb : ∀ r ∈ rs, r.bytes.length ≤ 200 := fun r hr => by
    have h := (hm r hr).1
    have := Rw.bytes_length r
    have := h.2.1
    have := h.2.2.1
    omega
  have key : ∀ l : List Rw, l.length ≤ 8 → (∀ r ∈ l, r ∈ rs) → (l.map Rw.bytes).length ≤ 1000000000 ∧ total (l.map Rw.bytes) ≤ 1000000000 := fun l hl hmem => by
    refine ⟨by simp; omega, ?_⟩
    have := total_le (l := l.map Rw.bytes) (m := 200) (fun s hs => by
      obtain ⟨r, hr, rfl⟩ := List.mem_map.1 hs
      exact hb r (hmem r hr))
    rw [List.length_map] at this
    omega
  unfold grown
  split
  · unfold rootPg
    split
    · exact ⟨by simp [Pg.wf], key rs h8 (fun r h => h)⟩
    · refine ⟨by simp [Pg.wf], by simp [ens_length]; omega, ?_⟩
      have := total_le (l := (ens n rs).map En.bytes) (m := 200) (fun s hs => by
        obtain ⟨e, he, rfl⟩ := List.mem_map.1 hs
        obtain ⟨i, hi, rfl⟩ := List.getElem_of_mem he
        rw [ens_at hi, En.bytes_length]
        have := sep_len hn hm i
        show 4 + (sep n rs i).length ≤ 200
        omega)
      rw [List.length_map, ens_length] at this
      have h3 : lvN n rs.length * 200 ≤ 8 * 200 := Nat.mul_le_mul_right _ (by omega)
      show total ((ens n rs).map En.bytes) ≤ _
      omega
  · split
    · rename_i h
      refine ⟨?_, key _ (by rw [lvRows_length]; omega) (fun r hr => lvRows_mem hr)⟩
      simp only [Pg.wf, lvPg]
      refine ⟨by omega, by omega, by omega, by omega, ?_⟩
      split <;> omega
    · exact ⟨by simp [Pg.wf, zeroPg]; omega, by simp [zeroPg], by simp [zeroPg, total]⟩
end Sp

/-- What is asked of the rows of a grown tree. -/
structure GrOk (n : Nat) (rs : List Sp.Rw) : Prop where
  n1 : 1 ≤ n
  len : rs.length ≤ 8
  may : ∀ r ∈ rs, r.may ∧ r.wf
  rise : Sp.Rises (Sp.keysR rs)
section
variable {n : Nat} {rs : List Sp.Rw} {K : Foot} {w : World} {gt ga gd gl gp m : Nat}
theorem GrOk.known (h : GrOk n rs) : Known ly17 (Sp.grown n rs) (Sp.grownK n rs) := fun _ _ hx => Sp.grownK_ok h.n1 h.len h.may h.rise hx
theorem grown_get (hg : GrOk n rs) (h : TrAt ly17 (Sp.grown n rs) K w gt 1 ga gd gl gp m) (k : Sp.Bs) :
    Calls Tryz.prog 12 #[ptr gt, str k] w fun e w' => e = .returned (.tuple #[rwV (Sp.getR rs k), .bool (Sp.isK (Sp.keysR rs) k), .int .i64 0]) ∧ TrAt ly17 (Sp.grown n rs) K w' gt 1 ga gd gl gp m ∧ Kept K w w' := by
  obtain ⟨l, q, ls, hw, hk, h1, h2, _⟩ := Sp.tell_grown hg.n1 hg.rise (fun r hr => (hg.may r hr).1.1) k 6 0
  have := tree_get hg.known h k hw hk
  rw [h1, h2] at this
  exact this
theorem grown_next (hg : GrOk n rs) (h : TrAt ly17 (Sp.grown n rs) K w gt 1 ga gd gl gp m) (k : Sp.Bs) (is : Bool) :
    Calls Tryz.prog 14 #[ptr gt, str k, .bool is] w fun e w' => e = .returned (.tuple #[rwV ((Sp.nxR rs k is).getD Sp.Rw.zero), .bool (Sp.nxR rs k is).isSome, .int .i64 0]) ∧ TrAt ly17 (Sp.grown n rs) K w' gt 1 ga gd gl gp m ∧ Kept K w w' := by
  obtain ⟨l, q, ls, hw, hk, _, _, h3⟩ := Sp.tell_grown hg.n1 hg.rise (fun r hr => (hg.may r hr).1.1) k 6 1022
  exact tree_next hg.known h k is hw hk (h3 is)
theorem grown_check (hg : GrOk n rs) (h : TrAt ly17 (Sp.grown n rs) K w gt 1 ga gd gl gp m) :
    Calls Tryz.prog 11 #[ptr gt] w fun e w' => (∃ v, e = .returned (.tuple #[v, .int .i64 rs.length, .int .i64 0])) ∧ TrAt ly17 (Sp.grown n rs) K w' gt 1 ga gd gl gp m ∧ Kept K w w' := by
  obtain ⟨s, hw, hs, hn⟩ := Sp.walk_grown hg.n1 hg.len hg.rise 0
  refine (tree_check hg.known h hw (fun _ => hn)).mono fun e w' ⟨hk, hx⟩ => ?_
  rcases hx with ⟨h0, _⟩ | ⟨_, v, he, _, hT⟩
  · exact absurd rfl h0
  · rw [hs] at he
    exact ⟨⟨v, he⟩, hT, hk⟩
end
theorem Below.kept {n : Nat} {K : Foot} {w w1 w2 : World} (h : Below n w w1) (hk : Kept K w1 w2) (hK : ∀ b, b < n → K b) : Below n w w2 := h.trans ⟨hk.os, hk.tape, hk.output, hk.size, fun b hb => hk.block b (hK b hb)⟩
theorem TrAt.pages {ly : Ly} {pg pg' : Nat → Sp.Pg} {K : Foot} {w : World} {gt root ga gd gl gp n : Nat} (h : TrAt ly pg K w gt root ga gd gl gp n) (he : ∀ q, 1 ≤ q → q ≤ ly.top → pg q = pg' q) : TrAt ly pg' K w gt root ga gd gl gp n := ⟨h.ac.pages he, h.tree, h.k⟩
theorem PgsL.all {G : Foot} {w : World} {b o : Nat} {l : List Sp.Pg} (h : PgsL G w b o l) : PgsL (fun x => x < w.heap.size) w b o l := fun q hq => by
  obtain ⟨A, c, hR, rest⟩ := h q hq
  exact ⟨A, c, (Reads.in_ hR).mono (fun b hb => hb.2), rest⟩
/-- Rows that fit, as a tree has them. -/
theorem fit_rows {l : List Sp.Rx} (h : Sp.Fit l) (hw : ∀ r ∈ l, r.tx < 18446744073709551616 ∧ r.slot < 65536) {n : Nat} (hn : 1 ≤ n) : GrOk n (l.map Sp.Rx.rw) := by
  refine ⟨hn, by rw [List.length_map]; exact h.2.2, fun r hr => ?_, ?_⟩
  · obtain ⟨x, hx, rfl⟩ := List.mem_map.1 hr
    exact ⟨Sp.Rx.ok_may (h.1 x hx), hw x hx⟩
  · have e : Sp.keysR (l.map Sp.Rx.rw) = l.map (·.key) := by unfold Sp.keysR; rw [List.map_map]; rfl
    rw [e]; exact h.2.1
theorem fit_at {l : List Sp.Rx} (h : Sp.Fit l) {G : Foot} {w : World} {A : Option Addr} (hR : RxsAt G w A l) : RwsAt G w A (l.map Sp.Rx.rw) := by
  have e : (l.map Sp.Rx.rw).flatMap rwCs = l.flatMap rxCs := by
    rw [List.flatMap_map]
    have : ∀ (l : List Sp.Rx), (∀ r ∈ l, r.ok) → l.flatMap (fun r => rwCs r.rw) = l.flatMap rxCs := fun l => by
      induction l with
      | nil => intro _; rfl
      | cons x l ih =>
        intro hx
        rw [List.flatMap_cons, List.flatMap_cons, ih (fun r hr => hx r (List.mem_cons_of_mem _ hr)), (rxV_ok (hx x List.mem_cons_self)).2]
    exact this l h.1
  show Reads _ _ _ _ (l.map Sp.Rx.rw).length _
  rw [e, List.length_map]
  exact hR
end Go.Proofs.YtafopojibpifoaaGreat

/- A spoilt tree's pages: which they are, how one of them is put into the list. -/
namespace Go.Proofs.YtafopojibpifoaaGreat
open Go.RowKit Go.Conc

namespace Sp
theorem pick_range (f : Nat → Pg) (q : Nat) : ∀ N, (∃ m, m < N ∧ (f m).id = q ∧ pick ((List.range N).map f) q = f m) ∨ ((∀ j, j < N → (f j).id ≠ q) ∧ pick ((List.range N).map f) q = zeroPg q)
  | 0 => .inr ⟨fun j h => by omega, rfl⟩
  | N + 1 => by
    have e : pick ((List.range (N + 1)).map f) q = if (f N).id = q then f N else pick ((List.range N).map f) q := by
      rw [List.range_succ, List.map_append]
      exact pick_snoc _ _ _
    rw [e]
    by_cases h : (f N).id = q
    · rw [if_pos h]
      exact .inl ⟨N, by omega, h, rfl⟩
    · rw [if_neg h]
      rcases pick_range f q N with ⟨m, hm, h1, h2⟩ | ⟨h1, h2⟩
      · exact .inl ⟨m, by omega, h1, h2⟩
      · refine .inr ⟨fun j hj => ?_, h2⟩
        by_cases ej : j = N
        · subst ej; exact h
        · exact h1 j (by omega)
/-- The list of a spoilt tree's pages. -/
def spF (n : Nat) (rs : List Rw) (k how q : Nat) : Pg := if q = k then spPg n rs k how else grownF n rs q
theorem spPg_id (n : Nat) (rs : List Rw) (k how : Nat) : (spPg n rs k how).id = 3 + k := by
  unfold spPg
  split <;> rfl
theorem pick_spoilt {n : Nat} {rs : List Rw} {k how q : Nat} (hk : k + 1 < lvN n rs.length) (h1 : 1 ≤ q) : pick ((List.range (lvN n rs.length + 1)).map (spF n rs k how)) q = spoilt n rs k how q := by
  have hF : ∀ j, j < lvN n rs.length → grownF n rs j = lvPg n rs j := fun j hj => by unfold grownF; rw [if_neg (by omega), if_pos hj]
  have hR : grownF n rs (lvN n rs.length) = rootPg n rs := by unfold grownF; rw [if_neg (by omega), if_neg (by omega)]
  have hid : ∀ j, j < lvN n rs.length → (spF n rs k how j).id = 3 + j := fun j hj => by
    unfold spF
    split
    · rename_i e; rw [spPg_id, e]
    · rw [hF j hj]; rfl
  have hidR : (spF n rs k how (lvN n rs.length)).id = 1 := by
    unfold spF
    rw [if_neg (by omega), hR, rootPg_id]
  rcases pick_range (spF n rs k how) q (lvN n rs.length + 1) with ⟨m, hm, h2, h3⟩ | ⟨h2, h3⟩
  · rw [h3]
    by_cases em : m = lvN n rs.length
    · subst em
      rw [hidR] at h2
      subst h2
      unfold spF spoilt
      rw [if_neg (by omega), if_neg (by omega), hR, grown_root]
    · rw [hid m (by omega)] at h2
      subst h2
      unfold spF spoilt
      by_cases ek : m = k
      · rw [if_pos ek, if_pos (by omega)]
      · rw [if_neg ek, if_neg (by omega), hF m (by omega), grown_leaf (by omega) (by omega)]
  · rw [h3]
    have q1 : q ≠ 1 := fun e => h2 (lvN n rs.length) (by omega) (by rw [hidR, e])
    have q3 : ¬ (3 ≤ q ∧ q < 3 + lvN n rs.length) := fun h => h2 (q - 3) (by omega) (by rw [hid _ (by omega)]; omega)
    unfold spoilt grown
    rw [if_neg (by omega), if_neg q1, if_neg (fun h => q3 ⟨h.2.1, h.2.2⟩)]
/-- A spoilt tree's pages may all be there. -/
theorem spoilt_may {n : Nat} {rs : List Rw} {k how : Nat} (hk : k + 1 < lvN n rs.length) (hle : lvN n rs.length ≤ 9) (h : ∀ q, 1 ≤ q → q ≤ 12 → mayB (grown n rs q) = true) {q : Nat} (h1 : 1 ≤ q) (h2 : q ≤ 12) : mayB (spoilt n rs k how q) = true := by
  unfold spoilt
  split
  · have ha := (mayB_iff _).1 (h (3 + k) (by omega) (by omega))
    have hb := (mayB_iff _).1 (h (3 + (k + 1)) (by omega) (by omega))
    rw [grown_leaf (by omega) (by omega)] at ha
    rw [grown_leaf (by omega) hk] at hb
    rw [mayB_iff]
    obtain ⟨a1, a2, a3, a4, a5⟩ := ha
    obtain ⟨b1, b2, b3, b4, b5⟩ := hb
    unfold spPg
    split
    · exact ⟨a1, a2, a3, by show 0 ≤ 1024; omega, a5⟩
    · exact ⟨a1, a2, a3, a3, a5⟩
    · exact ⟨a1, a2, a3, a4, b5⟩
    · exact ⟨a1, a2, a3, a4, a5⟩
    · exact ⟨by show 0 ≤ 5; omega, a2, a3, a4, a5⟩
  · exact h q h1 h2
theorem spoilt_small {n : Nat} (hn : 1 ≤ n) {rs : List Rw} (h8 : rs.length ≤ 8) (hm : ∀ r ∈ rs, r.may ∧ r.wf) {k how : Nat} (hk : k + 1 < lvN n rs.length) {q : Nat} (hq : q ≤ 12) : (spoilt n rs k how q).wf ∧ (spoilt n rs k how q).rows.length ≤ 1000000000 ∧ total (spoilt n rs k how q).rows ≤ 1000000000 := by
  have hle := lvN_le (n := n) (len := rs.length) hn
  unfold spoilt
  split
  · have ha := grown_small hn h8 hm (q := 3 + k) (by omega)
    have hb := grown_small hn h8 hm (q := 3 + (k + 1)) (by omega)
    rw [grown_leaf (by omega) (by omega)] at ha
    rw [grown_leaf (by omega) hk] at hb
    obtain ⟨⟨a1, a2, a3, a4, a5⟩, a6, a7⟩ := ha
    obtain ⟨⟨b1, b2, b3, b4, b5⟩, b6, b7⟩ := hb
    unfold spPg
    split
    · exact ⟨⟨a1, a2, a3, a4, by show 0 < 4294967296; omega⟩, a6, a7⟩
    · exact ⟨⟨a1, a2, a3, a4, a3⟩, a6, a7⟩
    · exact ⟨⟨a1, a2, a3, a4, a5⟩, b6, b7⟩
    · exact ⟨⟨a1, by show 1 < 256; omega, a3, a4, a5⟩, a6, a7⟩
    · exact ⟨⟨by show 0 < 256; omega, a2, a3, a4, a5⟩, a6, a7⟩
  · exact grown_small hn h8 hm hq
end Sp

theorem part_get (old : Array Value) (o : Nat) (cs : List Value) (h : o + cs.length ≤ old.size) (i : Nat) : (partRow old o cs)[i]? = if i < o then old[i]? else if i < o + cs.length then cs[i - o]? else old[i]? := by
  unfold partRow
  rw [List.getElem?_toArray]
  have hl : (old.toList.take o).length = o := by rw [List.length_take]; simp; omega
  by_cases h1 : i < o
  · rw [if_pos h1, List.append_assoc, List.getElem?_append_left (by omega), List.getElem?_take, if_pos h1]; simp
  · rw [if_neg h1, List.append_assoc, List.getElem?_append_right (by omega), hl]
    by_cases h2 : i < o + cs.length
    · rw [if_pos h2, List.getElem?_append_left (by omega)]
    · rw [if_neg h2, List.getElem?_append_right (by omega), List.getElem?_drop]
      rw [show o + cs.length + (i - o - cs.length) = i by omega]; simp
/-- The block of pages of one's own. -/
theorem PgOwn.blk {w0 : Nat} {G : Foot} {b k c : Nat} {f : Nat → Sp.Pg} {w : World} (h : PgOwn w0 G (.slice (some ⟨b, 0, none⟩) k c) k f w) : ∃ cur, Blk w b 51 cur ∧ k * 6 ≤ cur.size := by
  obtain ⟨A, c', ho, _⟩ := h
  rcases ho.2 with ⟨h0, _⟩ | ⟨g, cap, cur, e, _, hh, hc6, _, hs, _⟩
  · cases h0
  · injection e with e1 _ _
    injection e1 with e1
    injection e1 with e1
    subst e1
    exact ⟨cur, hh, by rw [hs]; exact Nat.mul_le_mul_right _ hc6⟩
/-- One page of a list is another one. -/
theorem PgsL.put {G : Foot} {w : World} {b k N : Nat} {f : Nat → Sp.Pg} {p : Sp.Pg} {A : Option Addr} {c : Nat} {cur : Array Value} (h : PgsL G w b 0 ((List.range N).map f)) (hB : Blk w b 51 cur) (hs : N * 6 ≤ cur.size) (hk : k < N) (hG : ∀ x, G x → x ≠ b) (hR : RowsAt G w A p.rows) :
    PgsL G (w.setRow b (partRow cur (k * 6) (pgl p A c))) b 0 ((List.range N).map fun q => if q = k then p else f q) := by
  have hB' := hB.setRow (partRow cur (k * 6) (pgl p A c))
  have hk6 : k * 6 + 6 ≤ cur.size := by omega
  have key : ∀ i, (w.setRow b (partRow cur (k * 6) (pgl p A c))).cell? ⟨b, i, none⟩ = if i < k * 6 then w.cell? ⟨b, i, none⟩ else if i < k * 6 + 6 then (pgl p A c)[i - k * 6]? else w.cell? ⟨b, i, none⟩ := fun i => by
    rw [hB'.cell, hB.cell, part_get _ _ _ (by simpa using hk6)]
    rfl
  intro q hq
  have hq' : q < N := by simpa using hq
  have e : ((List.range N).map fun q => if q = k then p else f q)[q] = if q = k then p else f q := by simp
  rw [e]
  by_cases ek : q = k
  · subst ek
    rw [if_pos rfl]
    have kk : ∀ j (hj : j < 6), (w.setRow b (partRow cur (q * 6) (pgl p A c))).cell? ⟨b, 0 + q * 6 + j, none⟩ = (pgl p A c)[j]? := fun j hj => by
      rw [key, if_neg (by omega), if_pos (by omega)]
      congr 1; omega
    exact ⟨A, c, hR.keep (by simp) (fun x hx => heap_setRow_other _ _ _ _ (hG x hx)), kk 0 (by omega), kk 1 (by omega), kk 2 (by omega), kk 3 (by omega), kk 4 (by omega), kk 5 (by omega)⟩
  · rw [if_neg ek]
    obtain ⟨A', c', hR', c0, c1, c2, c3, c4, c5⟩ := h q (by simpa using hq')
    have e2 : ((List.range N).map f)[q]'(by simpa using hq') = f q := by simp
    rw [e2] at hR' c0 c1 c2 c3 c4 c5
    have kk : ∀ j (hj : j < 6), (w.setRow b (partRow cur (k * 6) (pgl p A c))).cell? ⟨b, 0 + q * 6 + j, none⟩ = w.cell? ⟨b, 0 + q * 6 + j, none⟩ := fun j hj => by
      rw [key]
      by_cases h1 : 0 + q * 6 + j < k * 6
      · rw [if_pos h1]
      · rw [if_neg h1, if_neg (by omega)]
    exact ⟨A', c', hR'.keep (by simp) (fun x hx => heap_setRow_other _ _ _ _ (hG x hx)), (kk 0 (by omega)).trans c0, (kk 1 (by omega)).trans c1, (kk 2 (by omega)).trans c2, (kk 3 (by omega)).trans c3, (kk 4 (by omega)).trans c4, (kk 5 (by omega)).trans c5⟩
theorem PgsL.in_ {G : Foot} {w : World} {b o : Nat} {l : List Sp.Pg} (h : PgsL G w b o l) : PgsL (fun x => G x ∧ x < w.heap.size) w b o l := fun q hq => by
  obtain ⟨A, c, hR, rest⟩ := h q hq
  exact ⟨A, c, Reads.in_ hR, rest⟩
end Go.Proofs.YtafopojibpifoaaGreat

/- The walk of the law package pentimentolaw18: TreeFinds. -/
namespace Go.Proofs.YtafopojibpifoaaGreat
open Go.RowKit Go.Conc

/-- What is asked of the rows that come in. -/
def RxsOk (l : List Sp.Rx) : Prop := ∀ r ∈ l, (r.tx < 18446744073709551616 ∧ r.slot < 65536) ∧ r.key.length < 140737488355329 ∧ r.value.length < 140737488355329 ∧ r.pad < 9223372036854775808
/-- A row's cells, as part of a row of rows. -/
def Row7 (w : World) (b o : Nat) (r : Sp.Rw) : Prop := w.cell? ⟨b, o, none⟩ = some (str r.key) ∧ w.cell? ⟨b, o + 1, none⟩ = some (.bool r.mark) ∧ w.cell? ⟨b, o + 2, none⟩ = some (.int .u64 r.tx) ∧
    w.cell? ⟨b, o + 3, none⟩ = some (.int .u32 r.page) ∧ w.cell? ⟨b, o + 4, none⟩ = some (.int .u16 r.slot) ∧ w.cell? ⟨b, o + 5, none⟩ = some (str r.value) ∧ w.cell? ⟨b, o + 6, none⟩ = some (.int .i64 r.pad)
theorem Row7.below {w w' : World} {n b o : Nat} {r : Sp.Rw} (h : Row7 w b o r) (hb : Below n w w') (hl : b < n) : Row7 w' b o r := by
  obtain ⟨c0, c1, c2, c3, c4, c5, c6⟩ := h
  exact ⟨(hb.cell (p := ⟨b, _, none⟩) hl).trans c0, (hb.cell (p := ⟨b, _, none⟩) hl).trans c1, (hb.cell (p := ⟨b, _, none⟩) hl).trans c2, (hb.cell (p := ⟨b, _, none⟩) hl).trans c3, (hb.cell (p := ⟨b, _, none⟩) hl).trans c4, (hb.cell (p := ⟨b, _, none⟩) hl).trans c5, (hb.cell (p := ⟨b, _, none⟩) hl).trans c6⟩
set_option maxRecDepth 100000 in
set_option maxHeartbeats 8000000 in
theorem law_treeFinds (l : List Sp.Rx) (hok : RxsOk l) (hll : l.length ≤ 140737488355328) (ev : Nat) (hev : ev < 256) (key : Sp.Bs) (hkl : key.length ≤ 140737488355328) (G : Foot) (A : Option Addr) (cap : Nat) (hcap : l.length ≤ cap) (W : World) (hR : RxsAt G W A l) (hG : ∀ b, G b → b < W.heap.size) :
    Calls Tryz.prog 3 #[.slice A l.length cap, .int .u8 ev, str key] W fun e w' => e = .returned (.bool true) ∧ Below W.heap.size W w' := by
  have HAL := Lib.hid fun (w : World) => law18_alive w
  have HR := Lib.hid hR
  have HG := Lib.hid hG
  have HOK := Lib.hid hok
  have HFIT := Lib.hid fun (h : l.length ≤ 1000000) => law18_fit (cap := cap) hR hok h
  clear hR hok hG
  go_enter Tryz.func3, Tryz.ntmps3
  go_upto_region 1 with fail
  go_cut [44] from 32 to 43 (fun u wx => ∃ ob : Bool, u = .bool ob ∧ (ob = false → Sp.Fit l ∧ key.length ≤ 512) ∧ Below W.heap.size W wx)
  case first =>
    by_cases h20 : l.length ≤ 20
    · have d1 : decide ((20 : Int) < (l.length : Int)) = false := by rw [decide_eq_false_iff_not]; omega
      have HF := Lib.hid (HFIT.out (by omega))
      clear HFIT
      go_wp2_with fail
      refine HF.out.mono ?_
      rintro e w1 ⟨bv, rfl, hbv, hb⟩
      have HBV := Lib.hid hbv
      clear hbv HF
      cases bv with
      | false =>
        go_wp2_with fail
        go_meet
        case rel => exact ⟨true, rfl, fun h => (nomatch h), hb⟩
      | true =>
        by_cases h5 : key.length ≤ 512
        · have d2 : decide ((512 : Int) < (key.length : Int)) = false := by rw [decide_eq_false_iff_not]; omega
          go_wp2_with fail
          go_meet
          case rel => exact ⟨false, rfl, fun _ => ⟨HBV.out.1 (by first | rfl | trivial), h5⟩, hb⟩
        · have d2 : decide ((512 : Int) < (key.length : Int)) = true := by rw [decide_eq_true_eq]; omega
          go_wp2_with fail
          go_meet
          case rel => exact ⟨true, rfl, fun h => (nomatch h), hb⟩
    · have d1 : decide ((20 : Int) < (l.length : Int)) = true := by rw [decide_eq_true_eq]; omega
      go_wp2_with fail
      go_meet
      case rel => exact ⟨true, rfl, fun h => (nomatch h), Below.refl _ _⟩
  case rest =>
  obtain ⟨ob, rfl, hfit, hbc⟩ := hcut
  clear HFIT
  cases ob with
  | true =>
    clear hfit
    go_wp2_with fail
    refine (HAL.out _).mono ?_
    rintro e w1 ⟨rfl, hb⟩
    have hb2 := hbc.trans (hb.mono hbc.size)
    clear hb hbc
    go_wp2_with fail
    go_ret
    exact ⟨rfl, hb2⟩
  | false =>
  obtain ⟨hf, h512⟩ := hfit rfl
  obtain ⟨rs, hrs⟩ : ∃ rs, rs = l.map Sp.Rx.rw := ⟨_, rfl⟩
  obtain ⟨n, hn⟩ : ∃ n, n = 1 + ev % 3 := ⟨_, rfl⟩
  have hgr : GrOk n rs := by rw [hrs]; exact fit_rows hf (fun r hr => (HOK.out r hr).1) (by omega)
  have hlen : l.length = rs.length := by rw [hrs, List.length_map]
  have hRA : RwsAt G W A rs := by rw [hrs]; exact fit_at hf HR.out
  have HRA := Lib.hid hRA
  have HGR := Lib.hid hgr
  have h8 := hgr.len
  clear hfit hf hrs HR HOK
  rw [hlen] at hcap ⊢
  have HGN := Lib.hid (law18_grown ev n hn hev (cap := cap) (hRA.below hbc) hgr.may (by omega) hcap)
  clear hn hgr hRA hlen hll
  go_wp2_with fail
  refine HGN.out.mono ?_
  rintro e w1 ⟨v, rfl, hO, hb1⟩
  have hN1 : 1 ≤ Sp.grownN n rs := by unfold Sp.grownN; split <;> omega
  obtain ⟨b, c, rfl, hkc, hwb, hbl, hL⟩ := hO.reads hN1
  have hNl : Sp.grownN n rs ≤ 1000 := by
    have := Sp.lvN_le (n := n) (len := rs.length) HGR.out.n1
    unfold Sp.grownN; split <;> omega
  have hgl : ((List.range (Sp.grownN n rs)).map (Sp.grownF n rs)).length = Sp.grownN n rs := by simp
  have hpk : ∀ q, 1 ≤ q → Sp.pick ((List.range (Sp.grownN n rs)).map (Sp.grownF n rs)) q = Sp.grown n rs q := fun q h => Sp.pick_grown h
  have hsm : ∀ q, 1 ≤ q → q ≤ 12 → (Sp.pick ((List.range (Sp.grownN n rs)).map (Sp.grownF n rs)) q).rows.length ≤ 1000000000 ∧ Sp.total (Sp.pick ((List.range (Sp.grownN n rs)).map (Sp.grownF n rs)) q).rows ≤ 1000000000 := fun q h1 h2 => by
    rw [hpk q h1]; exact (Sp.grown_small HGR.out.n1 HGR.out.len HGR.out.may h2).2
  have hwf : ∀ q, 1 ≤ q → q ≤ 12 → (Sp.pick ((List.range (Sp.grownN n rs)).map (Sp.grownF n rs)) q).wf := fun q h1 h2 => by
    rw [hpk q h1]; exact (Sp.grown_small HGR.out.n1 HGR.out.len HGR.out.may h2).1
  have hPG := law18_pages (cap := c) hL.all hbl (fun x hx => hx) hsm (by rw [hgl]; exact hNl)
  have HMD := Lib.hid fun (w2 : World) (hb2 : Below w1.heap.size w1 w2) => law18_made (cap := c) (root := 1) (hL.all.below hb2 hbl (fun x hx => hx)) (Nat.lt_of_lt_of_le hbl hb2.size) (fun x hx => Nat.lt_of_lt_of_le hx hb2.size) hsm (by rw [hgl]; exact hNl) hwf (by omega) (by omega)
  rw [hgl] at hPG HMD
  have HPG := Lib.hid hPG
  have HPK := Lib.hid hpk
  have hbw1 := hbc.trans (hb1.mono hbc.size)
  have HCE : Hid (∃ gl, gl = (List.range (Sp.grownN n rs)).map (Sp.grownF n rs)) := Lib.hid ⟨_, rfl⟩
  generalize (List.range (Sp.grownN n rs)).map (Sp.grownF n rs) = gl at *
  clear HCE hPG hpk hsm hwf hL hO hgl HGN hb1 hbc hkc hwb
  go_wp2_with fail
  refine HPG.out.mono ?_
  rintro e w2 ⟨hb2, (⟨hc, rfl⟩ | ⟨hc, v, rfl, _⟩)⟩
  · have hbw2 := hbw1.trans (hb2.mono hbw1.size)
    clear hb2 hbw1 HMD HPG
    go_wp2_with fail
    refine (HAL.out _).mono ?_
    rintro e w3 ⟨rfl, hb3⟩
    have hb := hbw2.trans (hb3.mono hbw2.size)
    clear hb3 hbw2
    go_wp2_with fail
    go_ret
    exact ⟨rfl, hb⟩
  have HM := Lib.hid (HMD.out w2 hb2)
  have HC := Lib.hid hc
  have hbw2 := hbw1.trans (hb2.mono hbw1.size)
  clear HMD HPG hb2 hbw1 hc
  go_wp2_with fail
  refine HM.out.mono ?_
  rintro e w3 (⟨hc, _⟩ | ⟨_, gt, gx, ga, gd, gl', gp, rfl, hT, hb3⟩)
  · rw [HC.out] at hc; cases hc
  replace hT := hT.pages (pg' := Sp.grown n rs) (fun q h1 _ => HPK.out q h1)
  have hbw3 := hbw2.trans (hb3.mono hbw2.size)
  have hK0 : ∀ b, b < W.heap.size → (fun b => b < w2.heap.size ∨ b = gt ∨ b = ga) b := fun b hb => .inl (Nat.lt_of_lt_of_le hb hbw2.size)
  generalize (fun b => b < w2.heap.size ∨ b = gt ∨ b = ga) = K at hT hK0
  have HCK := Lib.hid (grown_check HGR.out hT)
  have HK0 := Lib.hid hK0
  have HBW := Lib.hid hbw3
  clear HM hb3 hbw2 hbw3 hK0 hT HPK HC
  go_wp2_with fail
  refine HCK.out.mono ?_
  rintro e w4 ⟨⟨v4, rfl⟩, hT4, hk4⟩
  have HGG := Lib.hid (grown_get HGR.out hT4 key)
  have HK4 := Lib.hid hk4
  clear HCK hk4 hT4
  go_wp2_with fail
  refine HGG.out.mono ?_
  rintro e w5 ⟨rfl, hT5, hk5⟩
  obtain ⟨r0, hr0⟩ : ∃ r, r = Sp.getR rs key := ⟨_, rfl⟩
  rw [← hr0]
  obtain ⟨ik, hik⟩ : ∃ b, b = Sp.isK (Sp.keysR rs) key := ⟨_, rfl⟩
  rw [← hik]
  have HR0 := Lib.hid hr0
  have HIK := Lib.hid hik
  obtain ⟨hT6, hB6, hk6⟩ := hT5.box 43 (rwA r0)
  have HBW6 := Lib.hid (Below.kept (Below.kept HBW.out HK4.out HK0.out) (hk5.trans hk6) HK0.out)
  have HK6 := Lib.hid fun b (hb : b < W.heap.size) => (show K b ∨ b = w5.heap.size from .inl (HK0.out b hb))
  have hg5 : W.heap.size ≤ w5.heap.size := by
    have h1 := HBW.out.size
    have h2 := HK4.out.size
    have h3 := hk5.size
    omega
  have HT6 := Lib.hid hT6
  have HB6 := Lib.hid hB6
  clear hr0 hik hT5 hk5 hk6 hT6 hB6 HGG HK4 HBW HK0
  go_upto_block 17 with fail
  generalize World.alloc w5 _ = w6 at HT6 HB6 HBW6
  obtain ⟨g, hg⟩ : ∃ g, g = w5.heap.size := ⟨_, rfl⟩
  rw [← hg] at HT6 HB6 HK6 hg5 ⊢
  clear hg
  go_loopw [18, 19] (fun t i wr => ∃ m : Nat, m ≤ rs.length ∧ i = .int .i64 m ∧ t = .bool (Sp.isK (Sp.keysR (rs.take m)) key) ∧ TrAt ly17 (Sp.grown n rs) (fun b => K b ∨ b = g) wr gt 1 ga gd gl' gp 5 ∧ Kept (fun b => K b ∨ b = g) w6 wr) (fun _ i _ => rs.length - (intOf i).toNat)
  case atStart => exact ⟨0, by omega, rfl, by simp [Sp.isK, Sp.keysR], HT6.out, Kept.refl _ _⟩
  case round =>
    obtain ⟨m, hm, rfl, rfl, hT, hk⟩ := hrel
    clear HT6
    by_cases hlt : m < rs.length
    · obtain ⟨b', o, rfl, hbl', c0, c1, c2, c3, c4, c5, c6⟩ := RwsAt.cells HRA.out hlt
      have HROW := Lib.hid (show Row7 W b' (o + m * 7) rs[m] from ⟨c0, c1, c2, c3, c4, c5, c6⟩)
      clear c0 c1 c2 c3 c4 c5 c6
      have hgg := grown_get HGR.out hT rs[m].key
      rw [Sp.getR_at HGR.out.rise hlt, (Sp.findK_at HGR.out.rise hlt).2] at hgg
      have HTK := Lib.hid (Sp.isK_take hlt key)
      have HGA := Lib.hid (Sp.getR_at HGR.out.rise hlt)
      obtain ⟨r, hr⟩ : ∃ r, r = rs[m] := ⟨_, rfl⟩
      rw [← hr] at hgg HROW HTK HGA
      clear hr
      have HGGm := Lib.hid hgg
      obtain ⟨c0, _⟩ := HROW.out.below (Below.kept HBW6.out hk HK6.out) hbl'
      obtain ⟨th, hth⟩ : ∃ t, t = Sp.isK (Sp.keysR (rs.take m)) key := ⟨_, rfl⟩
      rw [← hth] at HTK ⊢
      have HTH := Lib.hid hth
      have HKr := Lib.hid hk
      have hka := hT.ac.k
      have hkt := hT.k
      clear hgg hT hth hk
      go_wp2_with fail
      refine HGGm.out.mono ?_
      rintro e w7 ⟨rfl, hT7, hk7⟩
      obtain ⟨hT8, hB8, hk8⟩ := hT7.box 43 (rwA r)
      have hk68 := HKr.out.trans (hk7.trans hk8)
      have hT8' := hT8.less (K' := fun b => K b ∨ b = g) (fun b hb => .inl hb) hka hkt
      clear HGGm hT7 hk7 hk8 c0
      go_upto_region 21 with fail
      change Code.wp _ _ _ _ (w7.alloc (.cells (rwA r) 43))
      have hR8 := HROW.out.below (Below.kept HBW6.out hk68 HK6.out) hbl'
      have hG8 := HB6.out.kept hk68 (.inr rfl)
      generalize World.alloc w7 _ = w8 at hT8' hB8 hk68 hR8 hG8 ⊢
      obtain ⟨g2, hg2⟩ : ∃ g, g = w7.heap.size := ⟨_, rfl⟩
      rw [← hg2] at hB8 ⊢
      clear hg2 hT8
      obtain ⟨c0, c1, c2, c3, c4, c5, c6⟩ := hR8
      obtain ⟨d0, d1, d2, d3, d4, d5, d6⟩ := row_cells hB8
      have HG8 := Lib.hid hG8
      have HB8 := Lib.hid hB8
      have HT8 := Lib.hid hT8'
      have HK68 := Lib.hid hk68
      clear hG8 hB8 hT8' hk68
      have HR8 := Lib.hid (show Row7 w8 b' (o + m * 7) r from ⟨c0, c1, c2, c3, c4, c5, c6⟩)
      go_wp2_with fail
      go_quiet (fail)
      go_wp2_with fail
      rename_i nq
      have hR9 : Row7 (w8.drewN nq) b' (o + m * 7) r := HR8.out
      have hG9 : Blk (w8.drewN nq) g 43 (rwA r0) := HG8.out
      have hT9 := HT8.out.below (Below.drewN (Below.refl _ w8) nq)
      have hk9 : Kept (fun b => K b ∨ b = g) w6 (w8.drewN nq) := ⟨HK68.out.os, HK68.out.tape, HK68.out.output, HK68.out.size, HK68.out.block⟩
      clear HR8 HG8 HT8 HB8 HK68 d0 d1 d2 d3 d4 d5 d6 c0 c1 c2 c3 c4 c5 c6
      generalize w8.drewN nq = w9 at hR9 hG9 hT9 hk9 ⊢
      have HT9 := Lib.hid hT9
      have HK9 := Lib.hid hk9
      clear hT9 hk9
      cases th with
      | true =>
        go_quiet (fail)
        go_wp2_with fail
        go_roundw
        case rel => exact ⟨m + 1, hlt, by go_num, by rw [HTK.out]; rfl, HT9.out.below (Below.drewN (Below.refl _ w9) _), ⟨HK9.out.os, HK9.out.tape, HK9.out.output, HK9.out.size, HK9.out.block⟩⟩
        case measure => simp [intOf]; omega
      | false =>
        obtain ⟨c0, c1, c2, c3, c4, c5, c6⟩ := hR9
        by_cases hke : r.key = key
        · have hr0 : r0 = r := by rw [HR0.out, ← hke, HGA.out]
          have HTK' : Hid (Sp.isK (Sp.keysR (rs.take (m + 1))) key = true) := Lib.hid (by rw [HTK.out, hke]; simp)
          subst hke
          subst hr0
          obtain ⟨d0, d1, d2, d3, d4, d5, d6⟩ := row_cells hG9
          go_quiet (fail)
          go_wp2_with fail
          go_roundw
          case rel => exact ⟨m + 1, hlt, by go_num, by rw [HTK'.out], HT9.out.below (Below.drewN (Below.refl _ w9) _), ⟨HK9.out.os, HK9.out.tape, HK9.out.output, HK9.out.size, HK9.out.block⟩⟩
          case measure => simp [intOf]; omega
        · have HTK' : Hid (Sp.isK (Sp.keysR (rs.take (m + 1))) key = false) := Lib.hid (by rw [HTK.out]; simp [hke])
          have hbe : (r.key == key) = false := beq_eq_false_iff_ne.2 hke
          go_quiet (fail)
          go_wp2_with fail
          go_roundw
          case rel => exact ⟨m + 1, hlt, by go_num, by rw [HTK'.out], HT9.out.below (Below.drewN (Below.refl _ w9) _), ⟨HK9.out.os, HK9.out.tape, HK9.out.output, HK9.out.size, HK9.out.block⟩⟩
          case measure => simp [intOf]; omega
    · obtain rfl : m = rs.length := by omega
      rw [List.take_length, ← HIK.out]
      obtain ⟨f0, hf0⟩ : ∃ f, f = Sp.findK (Sp.keysR rs) key := ⟨_, rfl⟩
      have HF0 := Lib.hid hf0
      have hb1 := Below.kept HBW6.out hk HK6.out
      have HB1 := Lib.hid hb1
      have HT1 := Lib.hid hT
      have hka := hT.ac.k
      have hkt := hT.k
      obtain ⟨wl, hwl⟩ : ∃ w : World, w = wr := ⟨_, rfl⟩
      subst hwl
      clear hf0 hb1 hT hk HB6 HBW6 HR0
      go_upto_block 27 with fail
      have hfl : f0 ≤ rs.length := by
        have := Sp.findK_le (Sp.keysR rs) key
        have h2 : (Sp.keysR rs).length = rs.length := by simp [Sp.keysR]
        have := HF0.out; omega
      go_loopw [23, 24, 25] (fun t d i wr => ∃ m : Nat, m ≤ rs.length ∧ i = .int .i64 m ∧ t = str (Sp.atK rs key f0 m) ∧ d = .bool (decide (m ≤ f0)) ∧ TrAt ly17 (Sp.grown n rs) (fun b => K b ∨ b = g) wr gt 1 ga gd gl' gp 5 ∧ Kept (fun b => K b ∨ b = g) wl wr) (fun _ _ i _ => rs.length - (intOf i).toNat)
      case atStart => exact ⟨0, by omega, rfl, by rw [Sp.atK_lo (by omega)], by simp, HT1.out, Kept.refl _ _⟩
      case round =>
        obtain ⟨m, hm, rfl, rfl, rfl, hT, hk⟩ := hrel
        clear HT1
        by_cases hlt : m < rs.length
        · obtain ⟨b', o, rfl, hbl', c0, c1, c2, c3, c4, c5, c6⟩ := RwsAt.cells HRA.out hlt
          have HROW := Lib.hid (show Row7 W b' (o + m * 7) rs[m] from ⟨c0, c1, c2, c3, c4, c5, c6⟩)
          clear c0 c1 c2 c3 c4 c5 c6
          have hcp := Sp.cmp_place HGR.out.rise key hlt
          rw [← HF0.out] at hcp
          have hkr := (HGR.out.may _ (List.getElem_mem hlt)).1.2.1
          have HCMP := Lib.hid fun (w : World) => ref03_compare rs[m].key key w (by omega)
          have HHI := Lib.hid fun (h : f0 ≤ m) => Sp.atK_hi (key := key) h hlt
          have HNX := Lib.hid (show f0 ≤ m → Sp.nxR rs (Sp.atK rs key f0 m) (decide (m ≤ f0)) = some rs[m] from fun h => by
            have := Sp.nx_at HGR.out.rise key (by rw [← HF0.out]; exact h) (Nat.le_of_lt hlt)
            rw [← HF0.out] at this
            rw [this, List.getElem?_eq_getElem hlt])
          obtain ⟨r, hr⟩ : ∃ r, r = rs[m] := ⟨_, rfl⟩
          rw [← hr] at hcp HROW HCMP HHI HNX
          clear hr hkr
          obtain ⟨c0, _⟩ := HROW.out.below (Below.kept HB1.out hk HK6.out) hbl'
          have HKr := Lib.hid hk
          have HTr := Lib.hid hT
          clear hT hk
          rcases hcp with ⟨hlo, hd⟩ | ⟨hhi, hd⟩
          · have HAT := Lib.hid (show Sp.atK rs key f0 m = Sp.atK rs key f0 (m + 1) by rw [Sp.atK_lo (by omega), Sp.atK_lo (by omega)])
            have HDE := Lib.hid (show decide (m ≤ f0) = decide (m + 1 ≤ f0) from decide_eq_decide.2 (by omega))
            clear HHI HNX
            go_wp2_with fail
            refine (HCMP.out _).mono ?_
            rintro e w7 ⟨rfl, hb7⟩
            have HT7 := Lib.hid (HTr.out.below hb7)
            have HK7 := Lib.hid (HKr.out.trans (Kept.of_below hb7 HTr.out.lt))
            clear HCMP HTr HKr hb7 c0
            go_wp2_with fail
            go_roundw
            case rel => exact ⟨m + 1, hlt, by go_num, by rw [HAT.out], by rw [HDE.out], HT7.out, HK7.out⟩
            case measure => simp [intOf]; omega
          · go_wp2_with fail
            refine (HCMP.out _).mono ?_
            rintro e w7 ⟨rfl, hb7⟩
            have hT7 := HTr.out.below hb7
            have HK7 := Lib.hid (HKr.out.trans (Kept.of_below hb7 HTr.out.lt))
            have hgn := grown_next HGR.out hT7 (Sp.atK rs key f0 m) (decide (m ≤ f0))
            rw [HNX.out hhi] at hgn
            have HGN := Lib.hid hgn
            have HHI' := Lib.hid (HHI.out hhi)
            clear HCMP HTr HKr hb7 c0 hgn hT7 HHI HNX
            go_wp2_with fail
            refine HGN.out.mono ?_
            rintro e w8 ⟨rfl, hT8, hk8⟩
            obtain ⟨hT9, hB9, hk9⟩ := hT8.box 43 (rwA r)
            have hk19 := HK7.out.trans (hk8.trans hk9)
            have hT9' := hT9.less (K' := fun b => K b ∨ b = g) (fun b hb => .inl hb) hka hkt
            clear HGN hT8 hk8 hk9 hT9 HK7
            go_upto_region 32 with fail
            change Code.wp _ _ _ _ (w8.alloc (.cells (rwA r) 43))
            have hR9 := HROW.out.below (Below.kept HB1.out hk19 HK6.out) hbl'
            generalize World.alloc w8 _ = w9 at hT9' hB9 hk19 hR9 ⊢
            obtain ⟨g2, hg2⟩ : ∃ g, g = w8.heap.size := ⟨_, rfl⟩
            rw [← hg2] at hB9 ⊢
            clear hg2
            obtain ⟨c0, c1, c2, c3, c4, c5, c6⟩ := hR9
            obtain ⟨d0, d1, d2, d3, d4, d5, d6⟩ := row_cells hB9
            have HT9 := Lib.hid hT9'
            have HK9 := Lib.hid hk19
            have HD0 := Lib.hid d0
            have hfl2 : decide (m + 1 ≤ f0) = false := by rw [decide_eq_false_iff_not]; omega
            have HDE := Lib.hid hfl2
            clear hT9' hk19 hB9 hfl2
            go_wp2_with fail
            go_quiet (fail)
            go_wp2_with fail
            go_roundw
            case rel => exact ⟨m + 1, hlt, by go_num, by rw [HHI'.out], by rw [HDE.out], HT9.out.below (Below.drewN (Below.refl _ w9) _), ⟨HK9.out.os, HK9.out.tape, HK9.out.output, HK9.out.size, HK9.out.block⟩⟩
            case measure => simp [intOf]; omega
        · obtain rfl : m = rs.length := by omega
          have hgn := grown_next HGR.out hT (Sp.atK rs key f0 rs.length) (decide (rs.length ≤ f0))
          have hno : Sp.nxR rs (Sp.atK rs key f0 rs.length) (decide (rs.length ≤ f0)) = none := by
            have := Sp.nx_at HGR.out.rise key (by rw [← HF0.out]; exact hfl) (Nat.le_refl rs.length)
            rw [← HF0.out] at this
            rw [this]; simp
          rw [hno] at hgn
          have HGN := Lib.hid hgn
          have HB2 := Lib.hid (Below.kept HB1.out hk HK6.out)
          clear hgn hno hT hk
          go_wp2_with fail
          refine HGN.out.mono ?_
          rintro e w7 ⟨rfl, hT7, hk7⟩
          have hb8 := (Below.kept HB2.out hk7 HK6.out).alloc (Below.kept HB2.out hk7 HK6.out).size (.cells (rwA Sp.Rw.zero) 43)
          clear HGN hT7 hk7
          go_wp2_with fail
          refine (HAL.out _).mono ?_
          rintro e w9 ⟨rfl, hb9⟩
          have HB9 := Lib.hid (hb8.trans (hb9.mono hb8.size))
          clear hb8 hb9
          go_wp2_with fail
          go_ret
          exact ⟨rfl, HB9.out⟩
end Go.Proofs.YtafopojibpifoaaGreat

/- The walk of the law package pentimentolaw18: TreeSpoilt. -/
namespace Go.Proofs.YtafopojibpifoaaGreat
open Go.RowKit Go.Conc

set_option maxRecDepth 100000 in
set_option maxHeartbeats 8000000 in
theorem law_treeSpoilt (l : List Sp.Rx) (hok : RxsOk l) (hll : l.length ≤ 140737488355328) (ev : Nat) (hev : ev < 256) (wh : Nat) (hwh : wh < 256) (how : Nat) (hho : how < 256) (G : Foot) (A : Option Addr) (cap : Nat) (hcap : l.length ≤ cap) (W : World) (hR : RxsAt G W A l) (hG : ∀ b, G b → b < W.heap.size) :
    Calls Tryz.prog 4 #[.slice A l.length cap, .int .u8 ev, .int .u8 wh, .int .u8 how] W fun e w' => e = .returned (.bool true) ∧ Below W.heap.size W w' := by
  have HAL := Lib.hid fun (w : World) => law18_alive w
  have HR := Lib.hid hR
  have HG := Lib.hid hG
  have HOK := Lib.hid hok
  have HFIT := Lib.hid fun (h : l.length ≤ 1000000) => law18_fit (cap := cap) hR hok h
  clear hR hok hG
  go_enter Tryz.func4, Tryz.ntmps4
  go_upto_region 1 with fail
  go_cut [27] from 20 to 26 (fun u wx => ∃ ob : Bool, u = .bool ob ∧ (ob = false → Sp.Fit l) ∧ Below W.heap.size W wx)
  case first =>
    by_cases h20 : l.length ≤ 20
    · have d1 : decide ((20 : Int) < (l.length : Int)) = false := by rw [decide_eq_false_iff_not]; omega
      have HF := Lib.hid (HFIT.out (by omega))
      clear HFIT
      go_wp2_with fail
      refine HF.out.mono ?_
      rintro e w1 ⟨bv, rfl, hbv, hb⟩
      have HBV := Lib.hid hbv
      clear hbv HF
      cases bv with
      | false =>
        go_wp2_with fail
        go_meet
        case rel => exact ⟨true, rfl, fun h => (nomatch h), hb⟩
      | true =>
        go_wp2_with fail
        go_meet
        case rel => exact ⟨false, rfl, fun _ => HBV.out.1 (by first | rfl | trivial), hb⟩
    · have d1 : decide ((20 : Int) < (l.length : Int)) = true := by rw [decide_eq_true_eq]; omega
      go_wp2_with fail
      go_meet
      case rel => exact ⟨true, rfl, fun h => (nomatch h), Below.refl _ _⟩
  case rest =>
  obtain ⟨ob, rfl, hfit, hbc⟩ := hcut
  clear HFIT
  cases ob with
  | true =>
    clear hfit
    go_wp2_with fail
    refine (HAL.out _).mono ?_
    rintro e w1 ⟨rfl, hb⟩
    have hb2 := hbc.trans (hb.mono hbc.size)
    clear hb hbc
    go_wp2_with fail
    go_ret
    exact ⟨rfl, hb2⟩
  | false =>
  have hf := hfit rfl
  obtain ⟨rs, hrs⟩ : ∃ rs, rs = l.map Sp.Rx.rw := ⟨_, rfl⟩
  obtain ⟨n, hn⟩ : ∃ n, n = 1 + ev % 3 := ⟨_, rfl⟩
  have hgr : GrOk n rs := by rw [hrs]; exact fit_rows hf (fun r hr => (HOK.out r hr).1) (by omega)
  have hlen : l.length = rs.length := by rw [hrs, List.length_map]
  have hRA : RwsAt G W A rs := by rw [hrs]; exact fit_at hf HR.out
  have HRA := Lib.hid hRA
  have HGR := Lib.hid hgr
  have h8 := hgr.len
  clear hfit hf hrs HR HOK
  rw [hlen] at hcap ⊢
  have HGN := Lib.hid (law18_grown ev n hn hev (cap := cap) (hRA.below hbc) hgr.may (by omega) hcap)
  clear hn hgr hRA hlen hll
  go_wp2_with fail
  refine HGN.out.mono ?_
  rintro e w1 ⟨v, rfl, hO, hb1⟩
  have hN1 : 1 ≤ Sp.grownN n rs := by unfold Sp.grownN; split <;> omega
  obtain ⟨b, c, rfl, hkc, hwb, hbl, hL⟩ := hO.reads hN1
  have hNl : Sp.grownN n rs ≤ 1000 := by
    have := Sp.lvN_le (n := n) (len := rs.length) HGR.out.n1
    unfold Sp.grownN; split <;> omega
  have hgl : ((List.range (Sp.grownN n rs)).map (Sp.grownF n rs)).length = Sp.grownN n rs := by simp
  have hpk : ∀ q, 1 ≤ q → Sp.pick ((List.range (Sp.grownN n rs)).map (Sp.grownF n rs)) q = Sp.grown n rs q := fun q h => Sp.pick_grown h
  have hsm : ∀ q, 1 ≤ q → q ≤ 12 → (Sp.pick ((List.range (Sp.grownN n rs)).map (Sp.grownF n rs)) q).rows.length ≤ 1000000000 ∧ Sp.total (Sp.pick ((List.range (Sp.grownN n rs)).map (Sp.grownF n rs)) q).rows ≤ 1000000000 := fun q h1 h2 => by
    rw [hpk q h1]; exact (Sp.grown_small HGR.out.n1 HGR.out.len HGR.out.may h2).2
  have hwf : ∀ q, 1 ≤ q → q ≤ 12 → (Sp.pick ((List.range (Sp.grownN n rs)).map (Sp.grownF n rs)) q).wf := fun q h1 h2 => by
    rw [hpk q h1]; exact (Sp.grown_small HGR.out.n1 HGR.out.len HGR.out.may h2).1
  have hPG := law18_pages (cap := c) hL.all hbl (fun x hx => hx) hsm (by rw [hgl]; exact hNl)
  rw [hgl] at hPG
  have HPG := Lib.hid hPG
  have HPK := Lib.hid hpk
  have hbw1 := hbc.trans (hb1.mono hbc.size)
  have HBLK := Lib.hid hO.blk
  have HLI : Hid (PgsL (fun x => x ≠ b ∧ x < w1.heap.size) w1 b 0 ((List.range (Sp.grownN n rs)).map (Sp.grownF n rs))) := Lib.hid (by
    obtain ⟨A0, c0, ho, hRs⟩ := hO
    obtain ⟨b2, c2, e, _, _, _, hL2⟩ := PgOwn.reads ⟨A0, c0, ho, hRs⟩ hN1
    injection e with e
    injection e with e
    injection e with e
    subst e
    have h9 := hL2.in_
    intro q hq
    obtain ⟨A1, c1, hR1, rest⟩ := h9 q hq
    exact ⟨A1, c1, hR1.mono (fun x hx => ⟨fun e => hx.1.2 (by rw [e]; rfl), hx.2⟩), rest⟩)
  have hWb : W.heap.size ≤ b := Nat.le_trans hbc.size hwb
  clear hPG hpk hsm hwf hL hO hgl HGN hb1 hbc hkc hwb
  go_wp2_with fail
  refine HPG.out.mono ?_
  rintro e w2 ⟨hb2, (⟨hc, rfl⟩ | ⟨hc, v, rfl, _⟩)⟩
  · have hbw2 := hbw1.trans (hb2.mono hbw1.size)
    clear hb2 hbw1 HPG
    go_wp2_with fail
    refine (HAL.out _).mono ?_
    rintro e w3 ⟨rfl, hb3⟩
    have hb := hbw2.trans (hb3.mono hbw2.size)
    clear hb3 hbw2
    go_wp2_with fail
    go_ret
    exact ⟨rfl, hb⟩
  have HCAN : Hid (∀ q, 1 ≤ q → q ≤ 12 → mayB (Sp.grown n rs q) = true) := Lib.hid fun q h1 h2 => by
    have := Sp.canB_at hc h1 h2
    rwa [HPK.out q h1] at this
  have hbw2 := hbw1.trans (hb2.mono hbw1.size)
  have HB12 := Lib.hid hb2
  clear hc HPG hbw1 hb2
  by_cases h4 : Sp.grownN n rs < 4
  · have d4 : decide ((Sp.grownN n rs : Int) < 4) = true := by rw [decide_eq_true_eq]; omega
    go_wp2_with fail
    refine (HAL.out _).mono ?_
    rintro e w3 ⟨rfl, hb3⟩
    have hb := hbw2.trans (hb3.mono hbw2.size)
    clear hb3 hbw2
    go_wp2_with fail
    go_ret
    exact ⟨rfl, hb⟩
  have d4 : decide ((Sp.grownN n rs : Int) < 4) = false := by rw [decide_eq_false_iff_not]; omega
  have hNM : Sp.grownN n rs = Sp.lvN n rs.length + 1 := by
    unfold Sp.grownN at h4 ⊢
    split
    · rename_i h; rw [if_pos h] at h4; omega
    · rfl
  obtain ⟨N, hN⟩ : ∃ N, N = Sp.grownN n rs := ⟨_, rfl⟩
  have HN := Lib.hid hN
  rw [← hN] at h4 d4 hNl hN1 hNM HBLK HLI ⊢
  clear hN
  obtain ⟨k, hk⟩ : ∃ k, k = wh % (N - 2) := ⟨_, rfl⟩
  have hkN : k + 2 < N := by
    have := Nat.mod_lt wh (show 0 < N - 2 by omega)
    omega
  have hkm : (wh : Int) % ((N : Int) - 2) = (k : Int) := by
    have e : ((N - 2 : Nat) : Int) = (N : Int) - 2 := by omega
    rw [hk, ← e]; rfl
  have HNM := Lib.hid hNM
  clear hNM
  go_upto_region 8 with fail
  rw [hkm]
  clear hkm hk
  obtain ⟨A1, c1, hR1, x0, x1, x2, x3, x4, x5⟩ := HLI.out k (by simp; omega)
  obtain ⟨A2, c2, hR2, y0, y1, y2, y3, y4, y5⟩ := HLI.out (k + 1) (by simp; omega)
  have hF : ∀ j, j + 1 < N → Sp.grownF n rs j = Sp.lvPg n rs j := fun j hj => by
    have := HNM.out
    unfold Sp.grownF
    rw [if_neg (by omega), if_pos (by omega)]
  have ex : ((List.range N).map (Sp.grownF n rs))[k]'(by simp; omega) = Sp.lvPg n rs k := by
    rw [List.getElem_map, List.getElem_range]; exact hF k (by omega)
  have ey : ((List.range N).map (Sp.grownF n rs))[k + 1]'(by simp; omega) = Sp.lvPg n rs (k + 1) := by
    rw [List.getElem_map, List.getElem_range]; exact hF (k + 1) (by omega)
  rw [ex] at hR1 x0 x1 x2 x3 x4 x5
  rw [ey] at hR2 y0 y1 y2 y3 y4 y5
  simp only [Nat.zero_add] at x0 x1 x2 x3 x4 x5 y0 y1 y2 y3 y4 y5
  obtain ⟨px, hpx⟩ : ∃ p, p = Sp.lvPg n rs k := ⟨_, rfl⟩
  obtain ⟨py, hpy⟩ : ∃ p, p = Sp.lvPg n rs (k + 1) := ⟨_, rfl⟩
  rw [← hpx] at hR1 x0 x1 x2 x3 x4 x5
  rw [← hpy] at hR2 y0 y1 y2 y3 y4 y5
  have HPX := Lib.hid hpx
  have HPY := Lib.hid hpy
  have hb12 := HB12.out
  replace x0 := (hb12.cell (p := ⟨b, _, none⟩) hbl).trans x0
  replace x1 := (hb12.cell (p := ⟨b, _, none⟩) hbl).trans x1
  replace x2 := (hb12.cell (p := ⟨b, _, none⟩) hbl).trans x2
  replace x3 := (hb12.cell (p := ⟨b, _, none⟩) hbl).trans x3
  replace x4 := (hb12.cell (p := ⟨b, _, none⟩) hbl).trans x4
  replace x5 := (hb12.cell (p := ⟨b, _, none⟩) hbl).trans x5
  have hs12 : w1.heap.size ≤ w2.heap.size := hb12.size
  have bx := (Below.refl w2.heap.size w2).alloc (Nat.le_refl _) (.cells (pgCs px A1 c1) 51)
  have Bx := Blk.new w2 51 (pgCs px A1 c1)
  replace y0 := (bx.cell (p := ⟨b, _, none⟩) (Nat.lt_of_lt_of_le hbl hs12)).trans ((hb12.cell (p := ⟨b, _, none⟩) hbl).trans y0)
  replace y1 := (bx.cell (p := ⟨b, _, none⟩) (Nat.lt_of_lt_of_le hbl hs12)).trans ((hb12.cell (p := ⟨b, _, none⟩) hbl).trans y1)
  replace y2 := (bx.cell (p := ⟨b, _, none⟩) (Nat.lt_of_lt_of_le hbl hs12)).trans ((hb12.cell (p := ⟨b, _, none⟩) hbl).trans y2)
  replace y3 := (bx.cell (p := ⟨b, _, none⟩) (Nat.lt_of_lt_of_le hbl hs12)).trans ((hb12.cell (p := ⟨b, _, none⟩) hbl).trans y3)
  replace y4 := (bx.cell (p := ⟨b, _, none⟩) (Nat.lt_of_lt_of_le hbl hs12)).trans ((hb12.cell (p := ⟨b, _, none⟩) hbl).trans y4)
  replace y5 := (bx.cell (p := ⟨b, _, none⟩) (Nat.lt_of_lt_of_le hbl hs12)).trans ((hb12.cell (p := ⟨b, _, none⟩) hbl).trans y5)
  have HR1 := Lib.hid hR1
  have HR2 := Lib.hid hR2
  clear ex ey hF hpx hpy hR1 hR2 hb12
  go_upto_region 9 with fail
  change Code.wp _ _ _ _ (w2.alloc (.cells (pgCs px A1 c1) 51))
  obtain ⟨gx, hgx⟩ : ∃ g, g = w2.heap.size := ⟨_, rfl⟩
  have hbw3 := hbw2.trans (bx.mono hbw2.size)
  generalize hw3 : World.alloc w2 _ = w3 at bx Bx y0 y1 y2 y3 y4 y5 hbw3 ⊢
  rw [← hgx] at Bx hs12 ⊢
  clear hw3
  have hs23 : gx < w3.heap.size := Bx.lt
  have hWx : W.heap.size ≤ gx := by have := hbw2.size; omega
  have by_ := (Below.refl w3.heap.size w3).alloc (Nat.le_refl _) (.cells (pgCs py A2 c2) 51)
  have By := Blk.new w3 51 (pgCs py A2 c2)
  have Bx4 := Bx.below by_ Bx.lt
  have hbw4 := hbw3.trans (by_.mono hbw3.size)
  have hb24 : Below w1.heap.size w1 (w3.alloc (.cells (pgCs py A2 c2) 51)) := HB12.out.trans ((bx.mono (by rw [← hgx]; exact hs12)).trans (by_.mono (by omega)))
  clear hgx x0 x1 x2 x3 x4 x5 bx Bx hbw2 hbw3
  go_upto_region 10 with fail
  change Code.wp _ _ _ _ (w3.alloc (.cells (pgCs py A2 c2) 51))
  obtain ⟨gy, hgy⟩ : ∃ g, g = w3.heap.size := ⟨_, rfl⟩
  generalize hw4 : World.alloc w3 _ = w4 at by_ By Bx4 hbw4 hb24 ⊢
  rw [← hgy] at By hs23 ⊢
  clear hw4 hgy y0 y1 y2 y3 y4 y5 by_
  obtain ⟨h, hh⟩ : ∃ h, h = how % 5 := ⟨_, rfl⟩
  have hhm : (how : Int) % 5 = (h : Int) := by omega
  have h5 : h < 5 := by omega
  clear hh
  go_upto_block 0 with fail
  go_cut [] from 62 to 78 (fun wx => ∃ A c, RowsAt (fun x => x ≠ b ∧ x < w1.heap.size) w1 A (Sp.spPg n rs k h).rows ∧ Blk wx gx 51 (pgCs (Sp.spPg n rs k h) A c) ∧ Turns (only gx) (only gx) w4 wx)
  case first =>
    obtain ⟨x0, x1, x2, x3, x4, x5⟩ := page_cells Bx4
    obtain ⟨y0, y1, y2, y3, y4, y5⟩ := page_cells By
    have f0 := Bx4.frozen 0
    have f1 := Bx4.frozen 1
    have f4 := Bx4.frozen 4
    have f5 := Bx4.frozen 5
    have HBX := Lib.hid Bx4
    clear Bx4 By
    rcases (show h = 0 ∨ h = 1 ∨ h = 2 ∨ h = 3 ∨ h = 4 by omega) with rfl | rfl | rfl | rfl | rfl
    · have e0 : (how : Int) % 5 = 0 := hhm
      clear hhm h5
      go_wp2_with fail
      go_meet
      case rel =>
        have e : Sp.spPg n rs k 0 = { px with next := 0 } := by rw [HPX.out]; rfl
        rw [e]
        exact ⟨A1, c1, HR1.out, HBX.out.set_ 4 _, (Turns.refl (only gx) w4).setCell (p := ⟨gx, 4, none⟩) (.inl rfl) _⟩
    · have e0 : (how : Int) % 5 = 1 := hhm
      clear hhm h5
      go_wp2_with fail
      go_meet
      case rel =>
        have e : Sp.spPg n rs k 1 = { px with next := px.id } := by rw [HPX.out]; rfl
        rw [e]
        exact ⟨A1, c1, HR1.out, HBX.out.set_ 4 _, (Turns.refl (only gx) w4).setCell (p := ⟨gx, 4, none⟩) (.inl rfl) _⟩
    · have e0 : (how : Int) % 5 = 2 := hhm
      clear hhm h5
      go_wp2_with fail
      go_meet
      case rel =>
        have e : Sp.spPg n rs k 2 = { px with rows := py.rows } := by rw [HPX.out, HPY.out]; rfl
        rw [e]
        exact ⟨A2, c2, HR2.out, HBX.out.set_ 5 _, (Turns.refl (only gx) w4).setCell (p := ⟨gx, 5, none⟩) (.inl rfl) _⟩
    · have e0 : (how : Int) % 5 = 3 := hhm
      clear hhm h5
      go_wp2_with fail
      go_meet
      case rel =>
        have e : Sp.spPg n rs k 3 = { px with level := 1 } := by rw [HPX.out]; rfl
        rw [e]
        exact ⟨A1, c1, HR1.out, HBX.out.set_ 1 _, (Turns.refl (only gx) w4).setCell (p := ⟨gx, 1, none⟩) (.inl rfl) _⟩
    · have e0 : (how : Int) % 5 = 4 := hhm
      clear hhm h5
      go_wp2_with fail
      go_meet
      case rel =>
        have e : Sp.spPg n rs k 4 = { px with kind := 0 } := by rw [HPX.out]; rfl
        rw [e]
        exact ⟨A1, c1, HR1.out, HBX.out.set_ 0 _, (Turns.refl (only gx) w4).setCell (p := ⟨gx, 0, none⟩) (.inl rfl) _⟩
  case rest =>
  obtain ⟨A5, c5, hR5, hB5, hT5⟩ := hcut
  have hb5 : Below w1.heap.size w1 wc := hb24.trans (hT5.below (by have := hb24.size; omega) (fun x hx => by have e : x = gx := hx; omega))
  have hbw5 : Below W.heap.size W wc := hbw4.trans (hT5.below hbw4.size (fun x hx => by have e : x = gx := hx; omega))
  obtain ⟨cur, hcur, hcs⟩ := HBLK.out
  have hbS := hcur.below hb5 hbl
  obtain ⟨z0, z1, z2, z3, z4, z5⟩ := page_cells hB5
  have HR5 := Lib.hid (show RowsAt (fun x => x ≠ b ∧ x < w1.heap.size) wc A5 (Sp.spPg n rs k h).rows from hR5.keep hb5.size (fun x hx => hb5.block x hx.2))
  have HLI5 := Lib.hid (HLI.out.below hb5 hbl (fun x hx => hx.2))
  have HPUT := Lib.hid (PgsL.put (c := c5) HLI5.out hbS hcs (show k < N by omega) (fun x hx => hx.1) HR5.out)
  have HS1 := Lib.hid (show w1.heap.size ≤ wc.heap.size from hb5.size)
  have HBS := Lib.hid hbS
  have hkc : k * 6 + 6 ≤ cur.size := by omega
  have HBW6 := Lib.hid (below_setRow hbw5 hWb (partRow cur (k * 6) (pgCs (Sp.spPg n rs k h) A5 c5).toList))
  have HPID : Hid (∃ p, p = Sp.spPg n rs k h) := Lib.hid ⟨_, rfl⟩
  clear hcur hR5 hB5 hT5 hb24 hbw4 hb5 hbw5 hbS HR5 HLI5 HLI HPX HPY HBLK HR1 HR2 Bx4 By
  go_upto_region 21 with (refine wpList_store_part rfl _ _ _ rfl b (k * 6) (pgCs (Sp.spPg n rs k h) A5 c5) rfl rfl _ _ HBS.out page_size (by show k * 6 + 6 ≤ cur.size; omega) (by simp [Value.oneCell']) ?_)
  change Code.wp _ _ _ _ (wc.setRow b (partRow cur (k * 6) (pgCs (Sp.spPg n rs k h) A5 c5).toList))
  have hs5 : (wc.setRow b (partRow cur (k * 6) (pgCs (Sp.spPg n rs k h) A5 c5).toList)).heap.size = wc.heap.size := by simp
  have hsW := HS1.out
  have hPUT : PgsL (fun x => x ≠ b ∧ x < w1.heap.size) (wc.setRow b (partRow cur (k * 6) (pgCs (Sp.spPg n rs k h) A5 c5).toList)) b 0 ((List.range N).map (Sp.spF n rs k h)) := HPUT.out
  have hMN := HNM.out
  rw [hMN] at hPUT
  have hkl : k + 1 < Sp.lvN n rs.length := by omega
  have hle := Sp.lvN_le (n := n) (len := rs.length) HGR.out.n1
  have hpk : ∀ q, 1 ≤ q → Sp.pick ((List.range (Sp.lvN n rs.length + 1)).map (Sp.spF n rs k h)) q = Sp.spoilt n rs k h q := fun q h1 => Sp.pick_spoilt hkl h1
  have HPK2 := Lib.hid hpk
  have hsm := fun q (h1 : 1 ≤ q) (h2 : q ≤ 12) => (Sp.spoilt_small HGR.out.n1 HGR.out.len HGR.out.may hkl (how := h) h2)
  have hcan : Sp.canB ((List.range (Sp.lvN n rs.length + 1)).map (Sp.spF n rs k h)) = true := Sp.canB_of (fun q h1 h2 => by
    rw [hpk q h1]
    exact Sp.spoilt_may hkl (by omega) HCAN.out h1 (by omega))
  have HCAN2 := Lib.hid hcan
  have hmd := law18_made (cap := c) (root := 1) hPUT (by rw [hs5]; omega) (fun x hx => by rw [hs5]; have := hx.2; omega) (fun q h1 h2 => by rw [hpk q h1]; exact (hsm q h1 h2).2) (by simp; omega) (fun q h1 h2 => by rw [hpk q h1]; exact (hsm q h1 h2).1) (by omega) (by omega)
  rw [show ((List.range (Sp.lvN n rs.length + 1)).map (Sp.spF n rs k h)).length = N by simp; omega] at hmd
  have HMD := Lib.hid hmd
  have HKL := Lib.hid hkl
  clear hPUT hmd hsm hpk hcan hMN hkl hle hs5 hsW HPUT HBS HCAN HPK HNM HS1 HB12 hcs hkc
  generalize World.setRow wc b _ = w6 at HMD HBW6 ⊢
  go_wp2_with fail
  refine HMD.out.mono ?_
  rintro e w7 (⟨hc, _⟩ | ⟨_, gt, gz, ga, gd, gl', gp, rfl, hT, hb7⟩)
  · rw [HCAN2.out] at hc; cases hc
  replace hT := hT.pages (pg' := Sp.spoilt n rs k h) (fun q h1 _ => HPK2.out q h1)
  have hbw7 := HBW6.out.trans (hb7.mono HBW6.out.size)
  have hK0 : ∀ b, b < W.heap.size → (fun b => b < w6.heap.size ∨ b = gt ∨ b = ga) b := fun b hb => .inl (Nat.lt_of_lt_of_le hb HBW6.out.size)
  generalize (fun b => b < w6.heap.size ∨ b = gt ∨ b = ga) = K at hT hK0
  obtain ⟨s, hws⟩ := Sp.walk_spoilt HGR.out.n1 HGR.out.len HGR.out.rise (fun r hr => (HGR.out.may r hr).1.1) 0 (k := k) (how := h) HKL.out
  have HCK := Lib.hid (tree_check (fun _ _ hx => Sp.spoiltK_ok HGR.out.n1 HGR.out.len HGR.out.may HGR.out.rise HKL.out hx) hT hws (fun h => absurd h (by decide)))
  have HK0 := Lib.hid hK0
  have HBW := Lib.hid hbw7
  clear HMD hb7 hbw7 hK0 hT HPK2 HCAN2 HBW6 hws HKL
  go_wp2_with fail
  refine HCK.out.mono ?_
  rintro e w8 ⟨hk8, (⟨_, rfl⟩ | ⟨h0, _⟩)⟩
  rotate_left
  · exact absurd h0 (by decide)
  have hb8 := Below.kept HBW.out hk8 HK0.out
  clear HCK hk8 HBW HK0
  go_wp2_with fail
  refine (HAL.out _).mono ?_
  rintro e w9 ⟨rfl, hb9⟩
  have hb := hb8.trans (hb9.mono hb8.size)
  clear hb8 hb9
  go_wp2_with fail
  go_ret
  exact ⟨rfl, hb⟩
end Go.Proofs.YtafopojibpifoaaGreat

/- The walks of package tree where there is no tree: New, none, Way, Get, Next, Check, Root, Act of none; the law TreeNil. -/
namespace Go.Proofs.YtafopojibpifoaaGreat
open Go.RowKit Go.Conc

abbrev pgZV : Value := .agg #[.int .u8 0, .int .u8 0, .int .u32 0, .int .u64 0, .int .u32 0, .slice none 0 0]
abbrev rwZ0 : Value := .agg #[str [], .bool false, .int .u64 0, .int .u32 0, .int .u16 0, str [], .int .i64 0]
theorem tree_new_nil (n : Nat) (w : World) : Calls Tryz.prog 15 #[.pointer none, u32v n] w fun e w' => e = .returned (.tuple #[.pointer none, .int .i64 1]) ∧ w' = w := by
  go_enter Tryz.func15, Tryz.ntmps15
  go_wp2_with fail
  go_ret2
  exact ⟨rfl, rfl⟩
theorem tree_none_nil (w : World) : Calls Tryz.prog 25 #[.pointer none] w fun e w' => e = .returned (.bool true) ∧ w' = w := by
  go_enter Tryz.func25, Tryz.ntmps25
  go_wp2_with fail
  go_ret
  exact ⟨rfl, rfl⟩
theorem tree_root_nil (w : World) : Calls Tryz.prog 17 #[.pointer none] w fun e w' => e = .returned (.int .u32 0) ∧ w' = w := by
  go_enter Tryz.func17, Tryz.ntmps17
  go_wp2_with fail
  go_ret
  exact ⟨rfl, rfl⟩
theorem tree_act_nil (w : World) : Calls Tryz.prog 18 #[.pointer none] w fun e w' => e = .returned (.pointer none) ∧ w' = w := by
  go_enter Tryz.func18, Tryz.ntmps18
  go_wp2_with fail
  go_ret
  exact ⟨rfl, rfl⟩
set_option maxRecDepth 100000 in
theorem tree_way_nil (k : Sp.Bs) (w : World) : Calls Tryz.prog 16 #[.pointer none, str k] w fun e w' => e = .returned (.tuple #[.slice none 0 0, pgZV, .int .i64 1]) ∧ Below w.heap.size w w' := by
  have HN := Lib.hid fun (W : World) => tree_none_nil W
  go_enter Tryz.func16, Tryz.ntmps16
  go_wp2_with fail
  go_step3
  go_wp2_with fail
  refine (HN.out _).mono ?_
  rintro e w1 ⟨rfl, hw1⟩
  subst w1
  clear HN
  go_wp2_with fail
  rw [Exit.noGoto_ret]
  exact bodyPost_ret (v := .tuple #[.slice none 0 0, pgZV, .int .i64 1]) (by rw [results_tct rfl]; go_simp) rfl ⟨rfl, (Below.refl w.heap.size w).alloc (Nat.le_refl _) _⟩
set_option maxRecDepth 100000 in
theorem tree_get_nil (k : Sp.Bs) (w : World) : Calls Tryz.prog 12 #[.pointer none, str k] w fun e w' => e = .returned (.tuple #[rwZ0, .bool false, .int .i64 1]) ∧ Below w.heap.size w w' := by
  have HW := Lib.hid fun (W : World) => tree_way_nil k W
  have hb1 := (Below.refl w.heap.size w).alloc (Nat.le_refl _) (.cells rwZc 43)
  have hB1 := Blk.new w 43 rwZc
  go_enter Tryz.func12, Tryz.ntmps12
  go_wp2_with fail
  generalize World.alloc w _ = w1 at hb1 hB1 ⊢
  refine (HW.out _).mono ?_
  rintro e w2 ⟨rfl, hb2⟩
  have hB2 := hB1.below hb2 hB1.lt
  have hg2 : w.heap.size < w2.heap.size := hB2.lt
  have hb3 := (Below.refl w2.heap.size w2).alloc (Nat.le_refl _) (.cells #[.int .u8 0, .int .u8 0, .int .u32 0, .int .u64 0, .int .u32 0, .slice none 0 0] 51)
  have hB3 := hB2.below hb3 hB2.lt
  have hb := (hb1.trans (hb2.mono hb1.size)).trans (hb3.mono (by have := hb1.size; have := hb2.size; omega))
  clear hb1 hB1 hb2 hB2 hb3 HW
  go_wp2_with (refine wpList_store_part rfl _ _ _ rfl w.heap.size 0 rwZc rfl rfl _ _ hB3 row_size (by show 0 + 7 ≤ 7; omega) (row_one [] [] _ _ _ _ _) ?_)
  change bodyPost _ _ _ _ _ (World.setRow _ w.heap.size rwZc)
  have hBf := hB3.setRow rwZc
  have hbf := below_setRow hb (Nat.le_refl _) rwZc
  generalize World.setRow _ _ _ = w5 at hBf hbf ⊢
  obtain ⟨z0, z1, z2, z3, z4, z5, z6⟩ := row_cells hBf
  exact bodyPost_ret (v := .tuple #[rwZ0, .bool false, .int .i64 1]) (by rw [results_ctt rfl]; go_simp) rfl ⟨rfl, hbf⟩
set_option maxRecDepth 100000 in
theorem tree_next_nil (k : Sp.Bs) (is : Bool) (w : World) : Calls Tryz.prog 14 #[.pointer none, str k, .bool is] w fun e w' => e = .returned (.tuple #[rwZ0, .bool false, .int .i64 1]) ∧ Below w.heap.size w w' := by
  have HW := Lib.hid fun (W : World) => tree_way_nil k W
  have hb1 := (Below.refl w.heap.size w).alloc (Nat.le_refl _) (.cells rwZc 43)
  have hB1 := Blk.new w 43 rwZc
  go_enter Tryz.func14, Tryz.ntmps14
  go_wp2_with fail
  generalize World.alloc w _ = w1 at hb1 hB1 ⊢
  refine (HW.out _).mono ?_
  rintro e w2 ⟨rfl, hb2⟩
  have hB2 := hB1.below hb2 hB1.lt
  have hg2 : w.heap.size < w2.heap.size := hB2.lt
  have hb3 := (Below.refl w2.heap.size w2).alloc (Nat.le_refl _) (.cells #[.int .u8 0, .int .u8 0, .int .u32 0, .int .u64 0, .int .u32 0, .slice none 0 0] 51)
  have hB3 := hB2.below hb3 hB2.lt
  have hb := (hb1.trans (hb2.mono hb1.size)).trans (hb3.mono (by have := hb1.size; have := hb2.size; omega))
  clear hb1 hB1 hb2 hB2 hb3 HW
  go_wp2_with (refine wpList_store_part rfl _ _ _ rfl w.heap.size 0 rwZc rfl rfl _ _ hB3 row_size (by show 0 + 7 ≤ 7; omega) (row_one [] [] _ _ _ _ _) ?_)
  change bodyPost _ _ _ _ _ (World.setRow _ w.heap.size rwZc)
  have hBf := hB3.setRow rwZc
  have hbf := below_setRow hb (Nat.le_refl _) rwZc
  generalize World.setRow _ _ _ = w5 at hBf hbf ⊢
  obtain ⟨z0, z1, z2, z3, z4, z5, z6⟩ := row_cells hBf
  exact bodyPost_ret (v := .tuple #[rwZ0, .bool false, .int .i64 1]) (by rw [results_ctt rfl]; go_simp) rfl ⟨rfl, hbf⟩
set_option maxRecDepth 100000 in
theorem tree_check_nil (w : World) : Calls Tryz.prog 11 #[.pointer none] w fun e w' => e = .returned (.tuple #[.slice none 0 0, .int .i64 0, .int .i64 1]) ∧ Below w.heap.size w w' := by
  have HN := Lib.hid fun (W : World) => tree_none_nil W
  go_enter Tryz.func11, Tryz.ntmps11
  go_wp2_with fail
  refine (HN.out _).mono ?_
  rintro e w1 ⟨rfl, hw1⟩
  subst w1
  go_wp2_with fail
  exact bodyPost_ret (v := .tuple #[.slice none 0 0, .int .i64 0, .int .i64 1]) (by rw [results_cct rfl]; go_simp) rfl ⟨rfl, (((Below.refl w.heap.size w).alloc (Nat.le_refl _) _).alloc (by simp) _).alloc (by simp; omega) _⟩

set_option maxRecDepth 100000 in
set_option maxHeartbeats 4000000 in
theorem law_treeNil (k : Sp.Bs) (is : Bool) (hk : k.length ≤ 140737488355328) (w : World) : Calls Tryz.prog 5 #[str k, .bool is] w fun e w' => e = .returned (.bool true) ∧ Below w.heap.size w w' := by
  have HAL := Lib.hid fun (W : World) => law18_alive W
  have HNE := Lib.hid fun (W : World) => tree_new_nil 1 W
  have HW := Lib.hid fun (W : World) => tree_way_nil k W
  have HG := Lib.hid fun (W : World) => tree_get_nil k W
  have HX := Lib.hid fun (W : World) => tree_next_nil k is W
  have HC := Lib.hid fun (W : World) => tree_check_nil W
  have HR := Lib.hid fun (W : World) => tree_root_nil W
  have HA := Lib.hid fun (W : World) => tree_act_nil W
  go_enter Tryz.func5, Tryz.ntmps5
  by_cases h5 : k.length ≤ 512
  · have d1 : decide ((512 : Int) < (k.length : Int)) = false := by rw [decide_eq_false_iff_not]; omega
    go_wp2_with fail
    refine (HNE.out _).mono ?_
    rintro e w1 ⟨rfl, hw1⟩
    subst w1
    go_wp2_with fail
    refine (HW.out _).mono ?_
    rintro e w2 ⟨rfl, hb2⟩
    have hb3 := hb2.alloc hb2.size (.cells #[.int .u8 0, .int .u8 0, .int .u32 0, .int .u64 0, .int .u32 0, .slice none 0 0] 51)
    clear hb2
    go_wp2_with fail
    generalize World.alloc w2 _ = w3 at hb3 ⊢
    refine (HG.out _).mono ?_
    rintro e w4 ⟨rfl, hb4⟩
    have hb5 := (hb3.trans (hb4.mono hb3.size)).alloc (by have := hb3.size; have := hb4.size; omega) (.cells rwZc 43)
    clear hb4 hb3
    go_wp2_with fail
    generalize World.alloc w4 _ = w5 at hb5 ⊢
    refine (HX.out _).mono ?_
    rintro e w6 ⟨rfl, hb6⟩
    have hb7 := (hb5.trans (hb6.mono hb5.size)).alloc (by have := hb5.size; have := hb6.size; omega) (.cells rwZc 43)
    clear hb5 hb6
    go_wp2_with fail
    generalize World.alloc w6 _ = w7 at hb7 ⊢
    refine (HC.out _).mono ?_
    rintro e w8 ⟨rfl, hb8⟩
    have hb9 := hb7.trans (hb8.mono hb7.size)
    clear hb7 hb8
    go_wp2_with fail
    refine (HR.out _).mono ?_
    rintro e w9 ⟨rfl, hw9⟩
    subst w9
    go_wp2_with fail
    refine (HA.out _).mono ?_
    rintro e w9 ⟨rfl, hw9⟩
    subst w9
    go_wp2_with fail
    refine (HAL.out _).mono ?_
    rintro e w10 ⟨rfl, hb10⟩
    have hb11 := hb9.trans (hb10.mono hb9.size)
    clear hb9 hb10
    go_wp2_with fail
    go_ret
    exact ⟨rfl, hb11⟩
  · have d1 : decide ((512 : Int) < (k.length : Int)) = true := by rw [decide_eq_true_eq]; omega
    go_wp2_with fail
    refine (HAL.out _).mono ?_
    rintro e w1 ⟨rfl, hb⟩
    go_wp2_with fail
    go_ret
    exact ⟨rfl, hb⟩
end Go.Proofs.YtafopojibpifoaaGreat
