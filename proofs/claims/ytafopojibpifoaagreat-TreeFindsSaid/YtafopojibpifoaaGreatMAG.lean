/- The walks of pentimentolaw17.Zero, pentimentoref06.left and May: pages that are handed about. -/
import Derived.Test.YtafopojibpifoaaGreatMAB
import Derived.Test.YtafopojibpifoaaGreatMAF
import Derived.Test.YtafopojibpifoaaGreatMAC
import Derived.Tactics
import Derived.WalkKit
import Derived.Test.YtafopojibpifoaaGreatMAA

namespace Go.Proofs.YtafopojibpifoaaGreat
open Go.RowKit

set_option maxRecDepth 100000 in
theorem law17_zero (n : Nat) (w : World) : Calls Tryz.prog 22 #[u32v n] w fun e w' => e = .returned (pgV (Sp.zeroPg n) none 0) ∧ Below w.heap.size w w' := by
  have hb1 := (Below.refl w.heap.size w).alloc (Nat.le_refl _) (.cells (pgCs (Sp.zeroPg 0) none 0) 51)
  go_enter Tryz.func22, Tryz.ntmps22
  go_wp2_with fail
  have hB := Blk.new w 51 (pgCs (Sp.zeroPg n) none 0)
  have hb := (Below.refl w.heap.size w).alloc (Nat.le_refl _) (.cells (pgCs (Sp.zeroPg n) none 0) 51)
  exact bodyPost_ret (v := pgV (Sp.zeroPg n) none 0) (results_cell_row rfl _ _ w.heap.size 51 _ (0, 0) _ rfl hB Tryz.underlying51 rfl rfl) rfl ⟨rfl, hb⟩

/-- What rows leave of a page's area. -/
def leftI (rows : List Sp.Bs) (k : Nat) : Int := (484 : Int) - 4 * k - Sp.total (rows.take k)
set_option maxRecDepth 100000 in
set_option maxHeartbeats 1000000 in
theorem ref06_left {w : World} {G : Foot} {p : Sp.Pg} {A : Option Addr} {c : Nat} (hR : RowsAt G w A p.rows) (hn : p.rows.length ≤ 1000000000) (ht : Sp.total p.rows ≤ 1000000000) :
    Calls Tryz.prog 39 #[pgV p A c] w fun e w' => e = .returned (.int .i64 (leftI p.rows p.rows.length)) ∧ Below w.heap.size w w' := by
  have hb1 := (Below.refl w.heap.size w).alloc (Nat.le_refl _) (.cells (pgCs p A c) 51)
  have hB1 := Blk.new w 51 (pgCs p A c)
  have HR1 := Lib.hid (Reads.below hR hb1)
  have c5 := hB1.cell 5
  simp only [List.getElem?_toArray, List.getElem?_cons_succ, List.getElem?_cons_zero] at c5
  clear hR
  go_enter Tryz.func39, Tryz.ntmps39
  go_wp2_with fail
  change Code.wp _ _ _ _ (w.alloc (.cells (pgCs p A c) 51))
  generalize hw1 : World.alloc w _ = w1 at hb1 hB1 HR1 c5 ⊢
  clear hw1
  go_loopw [3, 4] (fun v i wr => ∃ k : Nat, k ≤ p.rows.length ∧ i = .int .i64 k ∧ v = .int .i64 (leftI p.rows k) ∧ wr = w1) (fun _ i _ => p.rows.length - (intOf i).toNat)
  case atStart => exact ⟨0, by omega, rfl, by simp [leftI], rfl⟩
  case round =>
    obtain ⟨k, hk, rfl, rfl, rfl⟩ := hrel
    by_cases hlt : k < p.rows.length
    · obtain ⟨b, o, rfl, _, hb, hc⟩ := RowsAt.row HR1.out hlt
      have htk := Sp.total_take_succ p.rows k hlt
      have hle := Sp.total_take_le p.rows (k + 1)
      have hle2 := Sp.total_take_le p.rows k
      have HE := Lib.hid (show leftI p.rows (k + 1) = leftI p.rows k - 4 - (p.rows[k].length : Int) by unfold leftI; omega)
      have hl1 : leftI p.rows k ≤ 484 := by unfold leftI; omega
      have hl2 : -10000000000 ≤ leftI p.rows k := by unfold leftI; omega
      have hl3 : p.rows[k].length ≤ 1000000000 := by omega
      generalize leftI p.rows k = L at *
      generalize p.rows[k] = r at *
      clear htk hle hle2
      go_wp2_with fail
      go_roundw
      case rel => exact ⟨k + 1, hlt, by go_num, by rw [HE.out], trivial⟩
      case measure => simp [intOf]; omega
    · obtain rfl : k = p.rows.length := by omega
      go_wp2_with fail
      go_ret
      exact ⟨rfl, hb1⟩

set_option maxRecDepth 100000 in
set_option maxHeartbeats 4000000 in
theorem ref06_may {w : World} {G : Foot} {p : Sp.Pg} {A : Option Addr} {c : Nat} (hR : RowsAt G w A p.rows) (hn : p.rows.length ≤ 1000000000) (ht : Sp.total p.rows ≤ 1000000000) :
    Calls Tryz.prog 23 #[pgV p A c] w fun e w' => e = .returned (.bool (mayB p)) ∧ Below w.heap.size w w' := by
  have key : (decide ((p.kind : Int) ≤ 5) = false ∧ mayB p = false) ∨ (decide ((p.kind : Int) ≤ 5) = true ∧ decide (0 < (p.id : Int)) = false ∧ mayB p = false) ∨
      (decide ((p.kind : Int) ≤ 5) = true ∧ decide (0 < (p.id : Int)) = true ∧ decide ((p.id : Int) ≤ 1024) = false ∧ mayB p = false) ∨
      (decide ((p.kind : Int) ≤ 5) = true ∧ decide (0 < (p.id : Int)) = true ∧ decide ((p.id : Int) ≤ 1024) = true ∧ decide ((p.next : Int) ≤ 1024) = false ∧ mayB p = false) ∨
      (decide ((p.kind : Int) ≤ 5) = true ∧ decide (0 < (p.id : Int)) = true ∧ decide ((p.id : Int) ≤ 1024) = true ∧ decide ((p.next : Int) ≤ 1024) = true ∧ decide (0 ≤ leftI p.rows p.rows.length) = false ∧ mayB p = false) ∨
      (decide ((p.kind : Int) ≤ 5) = true ∧ decide (0 < (p.id : Int)) = true ∧ decide ((p.id : Int) ≤ 1024) = true ∧ decide ((p.next : Int) ≤ 1024) = true ∧ decide (0 ≤ leftI p.rows p.rows.length) = true ∧ mayB p = true) := by
    have e5 : leftI p.rows p.rows.length = (484 : Int) - 4 * p.rows.length - Sp.total p.rows := by unfold leftI; rw [List.take_length]
    rw [e5]
    by_cases a1 : p.kind ≤ 5
    · by_cases a2 : 1 ≤ p.id
      · by_cases a3 : p.id ≤ 1024
        · by_cases a4 : p.next ≤ 1024
          · by_cases a5 : 4 * p.rows.length + Sp.total p.rows ≤ 484
            · refine .inr (.inr (.inr (.inr (.inr ⟨?_, ?_, ?_, ?_, ?_, by simp [mayB, a1, a2, a3, a4, a5]⟩)))) <;> rw [decide_eq_true_eq] <;> omega
            · refine .inr (.inr (.inr (.inr (.inl ⟨?_, ?_, ?_, ?_, ?_, by simp [mayB, a5]⟩)))) <;> first | (rw [decide_eq_true_eq]; omega) | (rw [decide_eq_false_iff_not]; omega)
          · refine .inr (.inr (.inr (.inl ⟨?_, ?_, ?_, ?_, by simp [mayB, a4]⟩))) <;> first | (rw [decide_eq_true_eq]; omega) | (rw [decide_eq_false_iff_not]; omega)
        · refine .inr (.inr (.inl ⟨?_, ?_, ?_, by simp [mayB, a3]⟩)) <;> first | (rw [decide_eq_true_eq]; omega) | (rw [decide_eq_false_iff_not]; omega)
      · refine .inr (.inl ⟨?_, ?_, by simp [mayB, a2]⟩) <;> first | (rw [decide_eq_true_eq]; omega) | (rw [decide_eq_false_iff_not]; omega)
    · refine .inl ⟨?_, by simp [mayB, a1]⟩; rw [decide_eq_false_iff_not]; omega
  have hb1 := (Below.refl w.heap.size w).alloc (Nat.le_refl _) (.cells (pgCs p A c) 51)
  have hB1 := Blk.new w 51 (pgCs p A c)
  have HL := Lib.hid (ref06_left (c := c) (Reads.below hR hb1) hn ht)
  have c0 := hB1.cell 0
  have c1 := hB1.cell 1
  have c2 := hB1.cell 2
  have c3 := hB1.cell 3
  have c4 := hB1.cell 4
  have c5 := hB1.cell 5
  simp only [List.getElem?_toArray, List.getElem?_cons_succ, List.getElem?_cons_zero] at c0 c1 c2 c3 c4 c5
  have HM : Hid (∃ mb, mayB p = mb) := ⟨_, rfl⟩
  generalize mayB p = mb at *
  generalize leftI p.rows p.rows.length = L at *
  clear hR HM
  rcases key with ⟨d1, hmb⟩ | ⟨d1, d2, hmb⟩ | ⟨d1, d2, d3, hmb⟩ | ⟨d1, d2, d3, d4, hmb⟩ | ⟨d1, d2, d3, d4, d5, hmb⟩ | ⟨d1, d2, d3, d4, d5, hmb⟩
  · subst hmb
    go_enter Tryz.func23, Tryz.ntmps23
    go_wp2_with fail
    go_ret
    exact ⟨rfl, hb1⟩
  · subst hmb
    have d2' : ¬ (0 < p.id) := by have := of_decide_eq_false d2; omega
    go_enter Tryz.func23, Tryz.ntmps23
    go_wp2_with fail
    go_ret
    exact ⟨rfl, hb1⟩
  · subst hmb
    have d2' : 0 < p.id := by have := of_decide_eq_true d2; omega
    go_enter Tryz.func23, Tryz.ntmps23
    go_wp2_with fail
    go_ret
    exact ⟨rfl, hb1⟩
  · subst hmb
    have d2' : 0 < p.id := by have := of_decide_eq_true d2; omega
    go_enter Tryz.func23, Tryz.ntmps23
    go_wp2_with fail
    go_ret
    exact ⟨rfl, hb1⟩
  all_goals
    subst hmb
    have d2' : 0 < p.id := by have := of_decide_eq_true d2; omega
    go_enter Tryz.func23, Tryz.ntmps23
    go_wp2_with fail
    refine HL.out.mono ?_
    rintro e w2 ⟨rfl, hb2⟩
    have hb3 := hb1.trans (hb2.mono hb1.size)
    clear HL c0 c1 c2 c3 c4 c5
    go_wp2_with fail
    go_ret
    exact ⟨rfl, hb3⟩
end Go.Proofs.YtafopojibpifoaaGreat

/- The walks of package pool: Pin of a page that is in. -/
namespace Go.Proofs.YtafopojibpifoaaGreat
open Go.RowKit Go.Conc

theorem Turns.then_new {F F' X : Foot} {w w1 w2 : World} {g : Nat} (h : Turns F F' w w1) (k : Turns (only g) X w1 w2) (hg : w.heap.size ≤ g) : Turns F F' w w2 :=
  ⟨k.os.trans h.os, k.tape.trans h.tape, k.output.trans h.output, Nat.le_trans h.size k.size, fun b hb hn => (k.block b (Nat.lt_of_lt_of_le hb h.size) (fun e => by have e : b = g := e; omega)).trans (h.block b hb hn), h.foot⟩

def PinInPost (F R : Foot) (w : World) (gp gd gl at_ base fb cb mb s r : Nat) (fl ids : List Nat) (p : Sp.Pl) (it : Sp.It) (e : Ending) (w' : World) : Prop :=
  ∃ F' v' cs' A c, e = .returned (.tuple #[pgV it.page A c, .int .i64 0]) ∧ OkAddr A ∧ RowsAt (fun b => w.heap.size ≤ b ∧ ¬ F' b) w' A it.page.rows ∧
    IsPlAt F' R w' gp gd gl at_ base fb cb mb v' s r cs' fl (ids.filter (fun x => !(x == it.page.id)) ++ [it.page.id]) (p.pinUp it.page.id) ∧ Turns F F' w w'

set_option maxRecDepth 100000 in
set_option maxHeartbeats 2000000 in
theorem pool_pin_in {F R : Foot} {w : World} {gp gd gl at_ base fb cb mb s r : Nat} {v : Value} {cs : Array Value} {fl ids : List Nat} {p : Sp.Pl} (h : IsPlAt F R w gp gd gl at_ base fb cb mb v s r cs fl ids p) {id : Nat} (hid : id < 4294967296) {it : Sp.It} (hf : p.find id = some it) (hp : it.pins < 1000000000) (hl : ids.length ≤ 64) :
    Calls Tryz.prog 42 #[ptr gp, u32v id] w (PinInPost F R w gp gd gl at_ base fb cb mb s r fl ids p it) := by
  obtain ⟨hit, rfl⟩ := Sp.Pl.find_mem hf
  have hb2 := Blk.new w 51 #[.int .u8 0, .int .u8 0, .int .u32 0, .int .u64 0, .int .u32 0, .slice none 0 0]
  have h2 := h.keep (w' := w.alloc (.cells #[.int .u8 0, .int .u8 0, .int .u32 0, .int .u64 0, .int .u32 0, .slice none 0 0] 51)) (by simp) (fun b hb => Below.heap_alloc w _ b (h.lt b hb))
  have ht0 := (Turns.refl F w).alloc (.cells #[.int .u8 0, .int .u8 0, .int .u32 0, .int .u64 0, .int .u32 0, .slice none 0 0] 51)
  have hg4 : ¬ F w.heap.size := fun hF => by have := h.lt _ hF; omega
  obtain ⟨c0, c1, c2, c3, c4, c5, c6, c7⟩ := h2.cells
  have HM := Lib.hid (pool_made c6)
  have hlk := h2.look_in hid hf
  have HPN := Lib.hid (pool_pins_walk h2 hid hf hp hl)
  have hlt9 := h2.wf.idx_lt hit
  have hn64 := h2.wf.n64
  clear h2 c0 c1 c2 c3 c4 c5 c7 h
  go_enter Tryz.func42, Tryz.ntmps42
  go_wp2_with fail
  have hg4l : w.heap.size ≤ w.heap.size := Nat.le_refl _
  obtain ⟨w2, hw2⟩ : ∃ w2, w2 = w.alloc (.cells #[.int .u8 0, .int .u8 0, .int .u32 0, .int .u64 0, .int .u32 0, .slice none 0 0] 51) := ⟨_, rfl⟩
  rw [← hw2] at HM HPN hlk hb2 ht0 c6 ⊢
  obtain ⟨g4, hg⟩ : ∃ g, g = w.heap.size := ⟨_, rfl⟩
  rw [← hg] at hb2 hg4 ⊢
  have hg4l : w.heap.size ≤ g4 := by omega
  clear hw2 hg
  refine HM.out.mono ?_
  rintro e w1 ⟨rfl, hw⟩
  subst w1
  go_wp2_with fail
  refine (HPN.out).mono ?_
  rintro e w3 ⟨F3, v3, cs3, rfl, h3, ht3⟩
  have hit3 : ({ it with pins := it.pins + 1 } : Sp.It) ∈ (p.pinUp it.page.id).items := List.mem_map.2 ⟨it, hit, by simp⟩
  obtain ⟨A, c, hA, hR, hc⟩ := h3.fr.item _ hit3
  have k0 := (h3.fr.blk.cell _).trans (hc 0 (by omega))
  have k1 := (h3.fr.blk.cell _).trans (hc 1 (by omega))
  have k2 := (h3.fr.blk.cell _).trans (hc 2 (by omega))
  have k3 := (h3.fr.blk.cell _).trans (hc 3 (by omega))
  have k4 := (h3.fr.blk.cell _).trans (hc 4 (by omega))
  have k5 := (h3.fr.blk.cell _).trans (hc 5 (by omega))
  simp only [frCells, List.getElem?_cons_succ, List.getElem?_cons_zero, Nat.add_zero] at k0 k1 k2 k3 k4 k5
  have hlr : it.page.rows.length ≤ 1000000 := by
    have := (h3.wf.pg _ hit3).2.2.2.2.2
    have : 4 * it.page.rows.length + Sp.total it.page.rows ≤ 484 := this
    omega
  have HCP := Lib.hid (pool_copied (c := c) hA hR hlr)
  have hg42 := hb2.lt
  have hb3 := hb2.turns ht3 hg4
  have H3 := Lib.hid h3
  have HF3 := Lib.hid h3.lt
  clear hA hR hc h3 hb2 HPN
  go_wp2_with fail
  refine HCP.out.mono ?_
  rintro e w4 ⟨A', c', rfl, hA', hR', hb4⟩
  have hB4 := hb3.below hb4 hb3.lt
  have z0 := hB4.cell 0
  have z1 := hB4.cell 1
  have z2 := hB4.cell 2
  have z3 := hB4.cell 3
  have z4 := hB4.cell 4
  have z5 := hB4.cell 5
  have f0 := hB4.frozen 0
  have f1 := hB4.frozen 1
  have f2 := hB4.frozen 2
  have f3 := hB4.frozen 3
  have f4 := hB4.frozen 4
  have f5 := hB4.frozen 5
  simp only [List.getElem?_toArray, List.getElem?_cons_succ, List.getElem?_cons_zero] at z0 z1 z2 z3 z4 z5
  have h4 := H3.out.keep hb4.size (fun b hb => hb4.block b (H3.out.lt b hb))
  have HR := Lib.hid hR'
  have HA := Lib.hid hA'
  have H4 := Lib.hid h4
  have ht4 := ht3.next hb4
  have HB4 := Lib.hid hB4
  have hg4k := hb3.lt
  clear hR' hA' h4 hB4 H3 HCP k0 k1 k2 k3 k4 k5 hb3
  go_wp2_with fail
  obtain ⟨W8, hW8, hX8, ht8, hk8⟩ := six_set HB4.out (.int .u8 it.page.kind) (.int .u8 it.page.level) (.int .u32 it.page.id) (.int .u64 it.page.lsn) (.int .u32 it.page.next) (.slice A' it.page.rows.length c')
  rw [hW8]
  have z0 := hX8.cell 0
  have z1 := hX8.cell 1
  have z2 := hX8.cell 2
  have z3 := hX8.cell 3
  have z4 := hX8.cell 4
  have z5 := hX8.cell 5
  simp only [List.getElem?_toArray, List.getElem?_cons_succ, List.getElem?_cons_zero] at z0 z1 z2 z3 z4 z5
  clear f0 f1 f2 f3 f4 f5 hW8
  refine bodyPost_ret (v := .tuple #[pgV it.page A' c', .int .i64 0]) (by rw [results_cell_tmp rfl]; go_simp) rfl ⟨F3, v3, cs3, A', c', rfl, HA.out, ?_, ?_, ?_⟩
  · have hz2 : w.heap.size ≤ w2.heap.size := ht0.size
    have hz3 := ht3.size
    exact (HR.out.keep ht8.size (fun b hb => hk8 b (fun e => by have hb : w3.heap.size ≤ b := hb; omega))).mono (fun b hb => by have hb : w3.heap.size ≤ b := hb; exact ⟨by omega, fun hF => by have := HF3.out b hF; omega⟩)
  · refine H4.out.keep ht8.size (fun b hb => hk8 b (fun e => ?_))
    rcases ht3.foot b hb with h | h
    · exact hg4 (e ▸ h)
    · omega
  · exact (ht0.trans ht4).then_new ht8 hg4l
end Go.Proofs.YtafopojibpifoaaGreat

/- The walks of package pool: Pin of a page that is not in. -/
namespace Go.Proofs.YtafopojibpifoaaGreat
open Go.RowKit Go.Conc

/-- the block of a page's rows. -/
def rowOf (w : World) (A : Option Addr) : Foot := fun b => (∃ o, A = some ⟨b, o, none⟩) ∧ b < w.heap.size
theorem rows_tight {G : Foot} {w : World} {A : Option Addr} {rows : List Sp.Bs} (h : RowsAt G w A rows) : RowsAt (fun b => G b ∧ rowOf w A b) w A rows :=
  ⟨h.1, fun hp => by
    obtain ⟨b, o, e, hg, hl, hc⟩ := h.2 hp
    exact ⟨b, o, e, ⟨hg, ⟨o, e⟩, hl⟩, hl, hc⟩⟩

abbrev zeroPgV : Value := .agg #[.int .u8 0, .int .u8 0, .int .u32 0, .int .u64 0, .int .u32 0, .slice none 0 0]
def PinOutPost (Z : Nat → Sp.Pl → List Nat → Foot → World → Prop) (Z4 : World → Prop) (H : Foot) (w : World) (gp gd gl at_ base fb cb mb : Nat) (x : Sp.Pg) (e : Ending) (w' : World) : Prop :=
  (e = .returned (.tuple #[zeroPgV, .int .i64 4]) ∧ ∃ w2 g4, Z4 w2 ∧ w.heap.size ≤ g4 ∧ Turns (only g4) (only g4) w2 w') ∨
  ∃ (i : Nat) (p' : Sp.Pl) (F' H' : Foot) (ids' rest : List Nat) (w2 : World) (F3 R3 : Foot) (v3 : Value) (s3 r3 : Nat) (cs3 : Array Value) (A : Option Addr) (c : Nat), e = .returned (.tuple #[pgV x A c, .int .i64 0]) ∧ OkAddr A ∧ RowsAt (fun b => w.heap.size ≤ b ∧ ¬ F3 b) w' A x.rows ∧
    IsPlAt F3 R3 w' gp gd gl at_ base fb cb mb v3 s3 r3 cs3 rest (ids'.filter (fun y => !(y == x.id)) ++ [x.id]) ((p'.bring x i rest).pinUp x.id) ∧ p'.free = i :: rest ∧ p'.find x.id = none ∧ Z i p' ids' H' w2 ∧ (∀ b, F' b → H' b) ∧ Turns H H' w w2 ∧ (∃ G : Foot, (∀ b, G b → ¬ H' b ∧ w.heap.size ≤ b) ∧ Turns (fun b => F' b ∨ G b) F3 w2 w')

set_option maxRecDepth 100000 in
set_option maxHeartbeats 4000000 in
theorem pool_pin_out {F R H D : Foot} {w : World} {gp gd gl at_ base fb cb mb s r : Nat} {v : Value} {cs : Array Value} {fl ids : List Nat} {p : Sp.Pl} (h : IsPlAt F R w gp gd gl at_ base fb cb mb v s r cs fl ids p) {x : Sp.Pg} (hx : x.wf ∧ x.may) (hf : p.find x.id = none)
    {dk : Sp.Dk} (hdk : IsDk D w gd dk) (hfu : dk.fuse ≠ 0) (hlo : dk.loose = []) (hi : base + x.id * 4 + 4 ≤ dk.sure.length) (hpg : Sp.pageAt dk.sure (base + x.id * 4) = pgBytes x) (hH : ∀ b, H b → b < w.heap.size)
    (Z : Nat → Sp.Pl → List Nat → Foot → World → Prop) (Z4 : World → Prop)
    (hT : ∀ W, Below w.heap.size w W → IsPlAt F R W gp gd gl at_ base fb cb mb v s r cs fl ids p → Calls Tryz.prog 96 #[ptr gp] W (TookPost Z Z4 H R W gp gd gl at_ base fb cb mb x.id))
    (hids : ∀ i p' ids' H' w2, Z i p' ids' H' w2 → ids'.length ≤ 64) :
    Calls Tryz.prog 42 #[ptr gp, u32v x.id] w (PinOutPost Z Z4 H w gp gd gl at_ base fb cb mb x) := by
  have hid : x.id < 4294967296 := hx.1.2.2.1
  have hb2 := Blk.new w 51 #[.int .u8 0, .int .u8 0, .int .u32 0, .int .u64 0, .int .u32 0, .slice none 0 0]
  have hbw := (Below.refl w.heap.size w).alloc (Nat.le_refl _) (.cells #[.int .u8 0, .int .u8 0, .int .u32 0, .int .u64 0, .int .u32 0, .slice none 0 0] 51)
  have h2 := h.keep (w' := w.alloc (.cells #[.int .u8 0, .int .u8 0, .int .u32 0, .int .u64 0, .int .u32 0, .slice none 0 0] 51)) (by simp) (fun b hb => Below.heap_alloc w _ b (h.lt b hb))
  have hd2 := hdk.below hbw
  obtain ⟨c0, c1, c2, c3, c4, c5, c6, c7⟩ := h2.cells
  have HM := Lib.hid (pool_made c6)
  have hlk := h2.look_out hid hf
  have hg4l : w.heap.size ≤ w.heap.size := Nat.le_refl _
  have HT := Lib.hid hT
  have hFl := h.lt
  have hz0 : ∀ W, (Instr.build 51 #[]).run Tryz.prog W = .ok zeroPgV W := fun W => by kernel_rfl
  clear c1 c2 c4 c5 c7 h hT hf hdk
  go_enter Tryz.func42, Tryz.ntmps42
  go_wp2_with fail
  obtain ⟨w2, hw2⟩ : ∃ w2, w2 = w.alloc (.cells #[.int .u8 0, .int .u8 0, .int .u32 0, .int .u64 0, .int .u32 0, .slice none 0 0] 51) := ⟨_, rfl⟩
  rw [← hw2] at HM hlk hb2 hbw c0 c3 c6 h2 hd2 ⊢
  obtain ⟨g4, hg⟩ : ∃ g, g = w.heap.size := ⟨_, rfl⟩
  rw [← hg] at hb2 ⊢
  have hg4l : w.heap.size ≤ g4 := by omega
  clear hw2 hg
  refine HM.out.mono ?_
  rintro e w1 ⟨rfl, hw⟩
  subst w1
  go_wp2_with fail
  have hS := Lib.hid (⟨c0, c3⟩ : w2.drew.cell? ⟨gp, 0, none⟩ = some (ptr gd) ∧ w2.drew.cell? ⟨gp, 3, none⟩ = some (.int .i64 base))
  have HTR := Lib.hid (twin_read (w := w2.drew) (hd2.below (Below.refl _ w2).drew) hfu hlo base x.id hid hi)
  rw [hpg] at HTR
  have H2 := Lib.hid h2
  have hgp0 := h2.blk
  clear c0 c3 c6 h2 HM hlk
  refine R_begin (fun W => W.cell? ⟨gp, 0, none⟩ = some (ptr gd) ∧ W.cell? ⟨gp, 3, none⟩ = some (.int .i64 base)) (fun _ => false) rfl ?_
  refine R_take 0 28 (v := ?_) rfl rfl (by rfl) (by kernel_rfl) (fun _ _ _ h => h) hS.out ?_ ?_
  rotate_left
  · intro w hSw; (try dsimp only at hSw); go_simp; (try with_reducible rfl)
  simp only [List.setIfInBounds_toArray, List.set_cons_zero, List.set_cons_succ]
  refine R_take 1 29 (v := ?_) rfl rfl (by rfl) (by kernel_rfl) (fun _ _ _ h => h) hS.out ?_ ?_
  rotate_left
  · intro w hSw; (try dsimp only at hSw); go_simp; (try with_reducible rfl)
  simp only [List.setIfInBounds_toArray, List.set_cons_zero, List.set_cons_succ]
  refine R_take 2 30 (v := ?_) rfl rfl (by rfl) (by kernel_rfl) (fun _ _ _ h => h) hS.out ?_ ?_
  rotate_left
  · intro w hSw; (try dsimp only at hSw); go_simp; (try with_reducible rfl)
  simp only [List.setIfInBounds_toArray, List.set_cons_zero, List.set_cons_succ]
  refine R_take 3 31 (v := ?_) rfl rfl (by rfl) (by kernel_rfl) (fun _ _ _ h => h) hS.out ?_ ?_
  rotate_left
  · intro w hSw; (try dsimp only at hSw); go_simp; (try with_reducible rfl)
  simp only [List.setIfInBounds_toArray, List.set_cons_zero, List.set_cons_succ]
  refine R_take 4 32 (v := ?_) rfl rfl (by rfl) (by kernel_rfl) (fun _ _ _ h => h) hS.out ?_ ?_
  rotate_left
  · intro w hSw; (try dsimp only at hSw); go_simp; (try with_reducible rfl)
  simp only [List.setIfInBounds_toArray, List.set_cons_zero, List.set_cons_succ]
  refine R_take 5 33 (v := ?_) rfl rfl (by rfl) (by kernel_rfl) (fun _ _ _ h => h) hS.out ?_ ?_
  rotate_left
  · intro w hSw; (try dsimp only at hSw); go_simp; (try with_reducible rfl)
  simp only [List.setIfInBounds_toArray, List.set_cons_zero, List.set_cons_succ]
  refine R_take 6 34 (v := ?_) rfl rfl (by rfl) (by kernel_rfl) (fun _ _ _ h => h) hS.out ?_ ?_
  rotate_left
  · intro w hSw; (try dsimp only at hSw); go_simp; (try with_reducible rfl)
  simp only [List.setIfInBounds_toArray, List.set_cons_zero, List.set_cons_succ]
  refine R_take 7 35 (v := ?_) rfl rfl (by rfl) (by kernel_rfl) (fun _ _ _ h => h) hS.out ?_ ?_
  rotate_left
  · intro w hSw; (try dsimp only at hSw); go_simp; (try with_reducible rfl)
  simp only [List.setIfInBounds_toArray, List.set_cons_zero, List.set_cons_succ]
  refine R_take 8 36 (v := ?_) rfl rfl (by rfl) (by kernel_rfl) (fun _ _ _ h => h) hS.out ?_ ?_
  rotate_left
  · intro w hSw; (try dsimp only at hSw); go_simp; (try with_reducible rfl)
  simp only [List.setIfInBounds_toArray, List.set_cons_zero, List.set_cons_succ]
  refine R_call 9 37 (w' := w2.drew) rfl rfl (by rfl) (by kernel_rfl) ?_ HTR.out ?_
  · go_simp
  rintro e w3 ⟨rfl, hb3⟩
  have hgp3 := hgp0.drew.below hb3 hgp0.lt
  have hS3 : w3.cell? ⟨gp, 0, none⟩ = some (ptr gd) ∧ w3.cell? ⟨gp, 3, none⟩ = some (.int .i64 base) := ⟨(hgp3.cell 0).trans rfl, (hgp3.cell 3).trans rfl⟩
  refine ⟨_, rfl, fun _ => hS3, ?_⟩
  simp only [List.setIfInBounds_toArray, List.set_cons_zero, List.set_cons_succ]
  clear hS HTR
  have hS := Lib.hid hS3
  clear hS3
  refine R_take 10 27 (v := ?_) rfl rfl (by rfl) (by kernel_rfl) (fun _ _ _ h => h) hS.out ?_ ?_
  rotate_left
  · intro w hSw; (try dsimp only at hSw); go_simp; (try with_reducible rfl)
  simp only [List.setIfInBounds_toArray, List.set_cons_zero, List.set_cons_succ]
  refine R_take 11 38 (v := ?_) rfl rfl (by rfl) (by kernel_rfl) (fun _ _ _ h => h) hS.out ?_ ?_
  rotate_left
  · intro w hSw; (try dsimp only at hSw); go_simp; (try with_reducible rfl)
  simp only [List.setIfInBounds_toArray, List.set_cons_zero, List.set_cons_succ]
  refine R_take 12 39 (v := ?_) rfl rfl (by rfl) (by kernel_rfl) (fun _ _ _ h => h) hS.out ?_ ?_
  rotate_left
  · intro w hSw; (try dsimp only at hSw); go_simp; (try with_reducible rfl)
  simp only [List.setIfInBounds_toArray, List.set_cons_zero, List.set_cons_succ]
  refine R_take 13 8 (v := ?_) rfl rfl (by rfl) (by kernel_rfl) (fun _ _ _ h => h) hS.out ?_ ?_
  rotate_left
  · intro w hSw; (try dsimp only at hSw); go_simp; (try with_reducible rfl)
  simp only [List.setIfInBounds_toArray, List.set_cons_zero, List.set_cons_succ]
  refine R_take 14 9 (v := ?_) rfl rfl (by rfl) (by kernel_rfl) (fun _ _ _ h => h) hS.out ?_ ?_
  rotate_left
  · intro w hSw; (try dsimp only at hSw); go_simp; (try with_reducible rfl)
  simp only [List.setIfInBounds_toArray, List.set_cons_zero, List.set_cons_succ]
  refine R_done (by kernel_rfl) ?_ _
  rename_i K9 hK9
  refine hK9 _ _ ?_
  have hbd : Below w2.heap.size w2 w3 := (Below.refl w2.heap.size w2).drew.trans hb3
  have h3 := H2.out.keep hbd.size (fun b hb => hbd.block b (H2.out.lt b hb))
  have hb3' := hb2.below hbd hb2.lt
  have hbw3 : Below w.heap.size w w3 := hbw.trans (hbd.mono hbw.size)
  have HDEC := Lib.hid (page_decode (w := w3) hx.1 hx.2)
  clear hS hgp3 hgp0 H2 hb2 hbw hb3 hbd hpg
  go_wp2_with fail
  refine HDEC.out.mono ?_
  rintro e w4 ⟨A, c, rfl, hA, hR, hb4⟩
  have hg43 := hb3'.lt
  have hs34 := hb4.size
  have hb4' := hb3'.below hb4 hb3'.lt
  have h4 := h3.keep hb4.size (fun b hb => hb4.block b (h3.lt b hb))
  have hbw4 : Below w.heap.size w w4 := hbw3.trans (hb4.mono hbw3.size)
  have hR4 := rows_tight hR
  have HB4 := Lib.hid hb4'
  have H4 := Lib.hid h4
  have HA := Lib.hid hA
  have HR4 := Lib.hid hR4
  have hs30 := hbw3.size
  clear hA hR hR4 hb4' h4 h3 hb3' hb4 HDEC
  go_wp2_with fail
  have hb5 := (Below.refl w4.heap.size w4).alloc (Nat.le_refl _) (.cells (pgCs x A c) 51)
  have h5 := H4.out.keep hb5.size (fun b hb => hb5.block b (H4.out.lt b hb))
  have hR5 := Reads.below HR4.out hb5
  have hg45 := HB4.out.below hb5 HB4.out.lt
  have hbw5 : Below w.heap.size w _ := hbw4.trans (hb5.mono hbw4.size)
  have hs45 := hb5.size
  have hroF : ∀ b, (w3.heap.size ≤ b ∧ rowOf w4 A b) → b < w4.heap.size := fun b hb => hb.2.2
  obtain ⟨w5, hw5⟩ : ∃ w5, w5 = w4.alloc (.cells (pgCs x A c) 51) := ⟨_, rfl⟩
  change Calls Tryz.prog _ #[ptr gp, pgV x A c] (w4.alloc (.cells (pgCs x A c) 51)) _
  rw [← hw5] at h5 hR5 hg45 hbw5 hs45 ⊢
  clear hb5 HB4 H4 HR4
  have hb6 := (Below.refl w5.heap.size w5).alloc (Nat.le_refl _) (.cells (pgCs x A c) 51)
  have HBR := Lib.hid (pool_brings (w := w5) (H := H) (G := fun b => w3.heap.size ≤ b ∧ rowOf w4 A b) hx HA.out hR5 (fun b hb => ⟨fun hh => by have := hH b hh; have := hb.1; omega, by have := hroF b hb; omega⟩) (fun b hb => by have := hH b hb; have := hbw5.size; omega) Z Z4
    (HT.out _ (hbw5.trans (hb6.mono hbw5.size)) (h5.keep hb6.size (fun b hb => hb6.block b (h5.lt b hb)))))
  have htw5 := Turns.of_below hbw5 H
  have hg4H : ¬ H g4 := fun hh => by have := hH g4 hh; omega
  have hg4r : ¬ (w3.heap.size ≤ g4 ∧ rowOf w4 A g4) := fun hh => by omega
  clear hb6 HT h5 hbw5
  refine HBR.out.mono ?_
  rintro e w7 (⟨rfl, hz, htz⟩ | ⟨i, p', F', H', v', s', r', cs', ids', rest, w6, rfl, h7, hfree, hnone, ht6, hF', hZ, ht7⟩)
  · have HB7 := Lib.hid (hg45.turns htz hg4H)
    have hg47 := HB7.out.lt
    have z0 := HB7.out.cell 0
    have f0 := HB7.out.frozen 0
    have z1 := HB7.out.cell 1
    have f1 := HB7.out.frozen 1
    have z2 := HB7.out.cell 2
    have f2 := HB7.out.frozen 2
    have z3 := HB7.out.cell 3
    have f3 := HB7.out.frozen 3
    have z4 := HB7.out.cell 4
    have f4 := HB7.out.frozen 4
    have z5 := HB7.out.cell 5
    have f5 := HB7.out.frozen 5
    simp only [List.getElem?_toArray, List.getElem?_cons_succ, List.getElem?_cons_zero] at z0 z1 z2 z3 z4 z5
    clear hg45 HBR
    go_wp2_with fail
    obtain ⟨W8, hW8, hX8, ht8, hk8⟩ := six_set HB7.out (.int .u8 0) (.int .u8 0) (.int .u32 0) (.int .u64 0) (.int .u32 0) (.slice none 0 0)
    rw [hW8]
    have z0 := hX8.cell 0
    have z1 := hX8.cell 1
    have z2 := hX8.cell 2
    have z3 := hX8.cell 3
    have z4 := hX8.cell 4
    have z5 := hX8.cell 5
    simp only [List.getElem?_toArray, List.getElem?_cons_succ, List.getElem?_cons_zero] at z0 z1 z2 z3 z4 z5
    clear f0 f1 f2 f3 f4 f5 hW8
    exact bodyPost_ret (v := .tuple #[zeroPgV, .int .i64 4]) (by rw [results_cell_tmp rfl]; go_simp) rfl (.inl ⟨rfl, w7, g4, hz, hg4l, ht8⟩)
  -- pins, copied
  obtain ⟨it, hite⟩ : ∃ it : Sp.It, it = ⟨x, 0, false, 0, i⟩ := ⟨_, rfl⟩
  obtain ⟨p2, hp2⟩ : ∃ p2, p2 = p'.bring x i rest := ⟨_, rfl⟩
  have hit : it ∈ p2.items := by rw [hp2, hite]; simp [Sp.Pl.bring]
  have hxe : x = it.page := by rw [hite]
  have hpin0 : it.pins < 1000000000 := by rw [hite]; simp
  rw [← hp2] at h7
  have hf2 : p2.find it.page.id = some it := Sp.Pl.find_of h7.wf hit
  have hl' := hids i p' ids' H' w6 hZ
  have HP2 := Lib.hid hp2
  have hg4H' : ¬ H' g4 := fun hh => by
    have hz := hg45.lt
    rcases ht6.foot g4 hh with h | h
    · exact hg4H h
    · omega
  have hg4F : ¬ (F' g4 ∨ (w3.heap.size ≤ g4 ∧ rowOf w4 A g4)) := fun hh => by
    rcases hh with hh | hh
    · exact hg4H' (hF' g4 hh)
    · exact hg4r hh
  have hb2 := (hg45.turns ht6 hg4H).turns ht7 (fun hh => hg4F (.inl hh))
  have HPN := Lib.hid (pool_pins_walk h7 (id := it.page.id) (by rw [← hxe]; exact hid) hf2 hpin0 hl')
  have hlt9 := h7.wf.idx_lt hit
  have hn64 := h7.wf.n64
  have hg4 := hg4F
  have hs67 := ht7.size
  have hs56 := ht6.size
  clear h7 hp2 hite hg45 HBR
  subst hxe
  go_wp2_with fail
  refine (HPN.out).mono ?_
  rintro e w8 ⟨F3, v3, cs3, rfl, h3, ht3⟩
  have hit3 : ({ it with pins := it.pins + 1 } : Sp.It) ∈ (p2.pinUp it.page.id).items := List.mem_map.2 ⟨it, hit, by simp⟩
  obtain ⟨A2, c2, hA, hR, hc⟩ := h3.fr.item _ hit3
  have k0 := (h3.fr.blk.cell _).trans (hc 0 (by omega))
  have k1 := (h3.fr.blk.cell _).trans (hc 1 (by omega))
  have k2 := (h3.fr.blk.cell _).trans (hc 2 (by omega))
  have k3 := (h3.fr.blk.cell _).trans (hc 3 (by omega))
  have k4 := (h3.fr.blk.cell _).trans (hc 4 (by omega))
  have k5 := (h3.fr.blk.cell _).trans (hc 5 (by omega))
  simp only [frCells, List.getElem?_cons_succ, List.getElem?_cons_zero, Nat.add_zero] at k0 k1 k2 k3 k4 k5
  have hlr : it.page.rows.length ≤ 1000000 := by
    have := (h3.wf.pg _ hit3).2.2.2.2.2
    have : 4 * it.page.rows.length + Sp.total it.page.rows ≤ 484 := this
    omega
  have HCP := Lib.hid (pool_copied (c := c2) hA hR hlr)
  have hg42 := hb2.lt
  have hb3 := hb2.turns ht3 hg4
  have H3 := Lib.hid h3
  have HF3l := Lib.hid h3.lt
  clear hA hR hc h3 hb2 HPN
  go_wp2_with fail
  refine HCP.out.mono ?_
  rintro e w9 ⟨A', c', rfl, hA', hR', hb4⟩
  have hB4 := hb3.below hb4 hb3.lt
  have z0 := hB4.cell 0
  have z1 := hB4.cell 1
  have z2 := hB4.cell 2
  have z3 := hB4.cell 3
  have z4 := hB4.cell 4
  have z5 := hB4.cell 5
  have f0 := hB4.frozen 0
  have f1 := hB4.frozen 1
  have f2 := hB4.frozen 2
  have f3 := hB4.frozen 3
  have f4 := hB4.frozen 4
  have f5 := hB4.frozen 5
  simp only [List.getElem?_toArray, List.getElem?_cons_succ, List.getElem?_cons_zero] at z0 z1 z2 z3 z4 z5
  have h4 := H3.out.keep hb4.size (fun b hb => hb4.block b (H3.out.lt b hb))
  have HR := Lib.hid hR'
  have HA := Lib.hid hA'
  have H4 := Lib.hid h4
  have ht4 := ht3.next hb4
  have HB4 := Lib.hid hB4
  have hg4k := hb3.lt
  clear hR' hA' h4 hB4 H3 HCP k0 k1 k2 k3 k4 k5 hb3
  go_wp2_with fail
  obtain ⟨W8, hW8, hX8, ht8, hk8⟩ := six_set HB4.out (.int .u8 it.page.kind) (.int .u8 it.page.level) (.int .u32 it.page.id) (.int .u64 it.page.lsn) (.int .u32 it.page.next) (.slice A' it.page.rows.length c')
  rw [hW8]
  have z0 := hX8.cell 0
  have z1 := hX8.cell 1
  have z2 := hX8.cell 2
  have z3 := hX8.cell 3
  have z4 := hX8.cell 4
  have z5 := hX8.cell 5
  simp only [List.getElem?_toArray, List.getElem?_cons_succ, List.getElem?_cons_zero] at z0 z1 z2 z3 z4 z5
  clear f0 f1 f2 f3 f4 f5 hW8
  have hF3 : ∀ b, F3 b → (F' b ∨ (w3.heap.size ≤ b ∧ rowOf w4 A b)) ∨ w7.heap.size ≤ b := fun b hb => ht3.foot b hb
  have hnF3 : ¬ F3 g4 := fun hh => by
    rcases hF3 g4 hh with h | h
    · exact hg4F h
    · omega
  have hz8 := ht3.size
  have hzw := htw5.size
  have hpl := H4.out.keep ht8.size (fun b hb => hk8 b (fun e => hnF3 (e ▸ hb)))
  rw [HP2.out] at hpl
  refine bodyPost_ret (v := .tuple #[pgV it.page A' c', .int .i64 0]) (by rw [results_cell_tmp rfl]; go_simp) rfl (.inr ⟨i, p', F', H', ids', rest, w6, F3, (fun b => R b ∨ (w3.heap.size ≤ b ∧ rowOf w4 A b)), v3, s', r', cs3, A', c', rfl, HA.out, ?_, hpl, hfree, hnone, hZ, hF', htw5.trans ht6, ⟨fun b => (w3.heap.size ≤ b ∧ rowOf w4 A b) ∨ b = g4, ?_, ?_⟩⟩)
  · exact (HR.out.keep ht8.size (fun b hb => hk8 b (fun e => by have hb : w8.heap.size ≤ b := hb; omega))).mono (fun b hb => by have hb : w8.heap.size ≤ b := hb; exact ⟨by omega, fun hF => by have := HF3l.out b hF; omega⟩)
  · rintro b (hb | rfl)
    · have hb4 := hroF b hb
      refine ⟨fun hh => ?_, by have := hb.1; omega⟩
      rcases ht6.foot b hh with h | h
      · have := hH b h; have := hb.1; omega
      · omega
    · exact ⟨hg4H', hg4l⟩
  · refine ⟨ht8.os.trans (ht4.os.trans ht7.os), ht8.tape.trans (ht4.tape.trans ht7.tape), ht8.output.trans (ht4.output.trans ht7.output), Nat.le_trans hs67 (Nat.le_trans ht4.size ht8.size), fun b hb hn => ?_, fun b hb => ?_⟩
    · rw [hk8 b (fun e => hn (.inr (.inr e))), ht4.block b (by omega) (fun h => hn (h.imp id (fun h => .inl h)))]
      exact ht7.block b hb (fun h => hn (.inl h))
    · rcases hF3 b hb with h | h
      · exact .inl (h.imp id (fun h => .inl h))
      · exact .inr (by omega)
end Go.Proofs.YtafopojibpifoaaGreat

/- Pin, of a pool whose pages are all clean. -/
namespace Go.Proofs.YtafopojibpifoaaGreat
open Go.RowKit Go.Conc

namespace Sp
/-- a page set last in the row. -/
def Pl.last (p : Pl) (id : Nat) : Pl := { p with items := p.items.filter (fun x => x.page.id != id) ++ p.items.filter (fun x => x.page.id == id) }
theorem Pl.last_perm (p : Pl) (id : Nat) : (p.last id).items.Perm p.items := by
  unfold Pl.last
  have h := List.filter_append_perm (fun x : It => x.page.id != id) p.items
  have e : (fun x : It => !(x.page.id != id)) = fun x => x.page.id == id := by funext x; simp [bne]
  rw [e] at h
  exact h
theorem filter_one : ∀ {l : List Nat} {a : Nat}, l.Nodup → a ∈ l → l.filter (fun x => x == a) = [a]
  | x :: l, a, hn, hm => by
    rw [List.nodup_cons] at hn
    by_cases e : x = a
    · subst e
      rw [List.filter_cons_of_pos (by simp), List.filter_eq_nil_iff.2]
      intro y hy
      have : y ≠ x := fun e => hn.1 (e ▸ hy)
      simpa using this
    · rw [List.filter_cons_of_neg (by simpa using e)]
      rcases List.mem_cons.1 hm with h | h
      · exact absurd h.symm e
      · exact filter_one hn.2 h
theorem Pl.last_ids {p : Pl} (h : (p.items.map (·.page.id)).Nodup) {id : Nat} (hm : id ∈ p.items.map (·.page.id)) : (p.last id).items.map (·.page.id) = (p.items.map (·.page.id)).filter (fun x => !(x == id)) ++ [id] := by
  unfold Pl.last
  rw [List.map_append]
  congr 1
  · rw [List.filter_map]; rfl
  · have := filter_one h hm
    rw [List.filter_map] at this
    exact this
end Sp

/-- Pin of a page that is in. -/
theorem pool_pin_in' {F : Foot} {w : World} {gp gd gl at_ base : Nat} {p : Sp.Pl} (h : IsPl F w gp gd gl at_ base p) {id : Nat} (hid : id < 4294967296) {it : Sp.It} (hf : p.find id = some it) (hp : it.pins < 1000000000) :
    Calls Tryz.prog 42 #[ptr gp, u32v id] w fun e w' => ∃ F' A c, e = .returned (.tuple #[pgV it.page A c, .int .i64 0]) ∧ OkAddr A ∧ RowsAt (fun b => w.heap.size ≤ b ∧ ¬ F' b) w' A it.page.rows ∧
      IsPl F' w' gp gd gl at_ base ((p.pinUp id).last id) ∧ Turns F F' w w' := by
  obtain ⟨hit, rfl⟩ := Sp.Pl.find_mem hf
  obtain ⟨R, fb, cb, mb, v, s, r, cs, h⟩ := h
  have hlen : (p.items.map (·.page.id)).length ≤ 64 := by
    have := h.wf.len; have := h.wf.n64
    rw [List.length_map]; omega
  refine (pool_pin_in h hid hf hp hlen).mono ?_
  rintro e w' ⟨F', v', cs', A, c, rfl, hA, hR, h', ht⟩
  refine ⟨F', A, c, rfl, hA, hR, ⟨R, fb, cb, mb, v', s, r, cs', ?_⟩, ht⟩
  have eu : ((p.pinUp it.page.id).items.map (·.page.id)) = p.items.map (·.page.id) := Sp.Pl.upd_ids ⟨fun _ => rfl, fun _ => rfl⟩
  have e1 := Sp.Pl.last_ids (p := p.pinUp it.page.id) h'.wf.ids (id := it.page.id) (by rw [eu]; exact List.mem_map.2 ⟨it, hit, rfl⟩)
  rw [eu] at e1
  have := h'.perm (Sp.Pl.last_perm (p.pinUp it.page.id) it.page.id)
  rw [← e1] at this
  exact this

/-- What take leaves of a pool whose pages are all clean. -/
def ZClean (p : Sp.Pl) (ids : List Nat) : Nat → Sp.Pl → List Nat → Foot → World → Prop := fun _ p' ids' _ _ =>
  (p' = p ∧ ids' = ids) ∨ ∃ pre it post, p.free = [] ∧ ids = pre ++ it.page.id :: post ∧ (∀ n ∈ pre, ∃ y, p.find n = some y ∧ 0 < y.pins) ∧ p.find it.page.id = some it ∧ it.pins = 0 ∧ p' = p.drop it.page.id it.idx ∧ ids' = ids.filter (fun x => !(x == it.page.id))
def Z4Clean (w : World) (p : Sp.Pl) (ids : List Nat) : World → Prop := fun w2 => p.free = [] ∧ (∀ n ∈ ids, ∃ it, p.find n = some it ∧ 0 < it.pins) ∧ Below w.heap.size w w2

theorem take_clean {F R : Foot} {w : World} {gp gd gl at_ base fb cb mb s r : Nat} {v : Value} {cs : Array Value} {ids : List Nat} {p : Sp.Pl} (hclean : ∀ it ∈ p.items, it.dirty = false) (hids : ids = p.items.map (·.page.id)) {id : Nat} (hf : p.find id = none)
    (W : World) (hb : Below w.heap.size w W) (h : IsPlAt F R W gp gd gl at_ base fb cb mb v s r cs p.free ids p) :
    Calls Tryz.prog 96 #[ptr gp] W (TookPost (ZClean p ids) (Z4Clean w p ids) F R W gp gd gl at_ base fb cb mb id) := by
  have hlen : ids.length ≤ 64 := by
    have := h.wf.len; have := h.wf.n64
    rw [hids, List.length_map]; omega
  have hids32 : ∀ it ∈ p.items, it.page.id < 4294967296 := fun it hit => (h.wf.pg it hit).1.2.2.1
  cases hfr : p.free with
  | cons i rest =>
    refine (pool_take_free h hfr).mono ?_
    rintro e w' ⟨rfl, F', v', s', r', cs', h', ht⟩
    exact .inr ⟨i, p, F', F', v', s', r', cs', ids, rest, rfl, h', hfr, hf, ht, fun _ h => h, .inl ⟨rfl, rfl⟩⟩
  | nil =>
    have hin : ∀ n ∈ ids, n < 4294967296 ∧ ∃ it, p.find n = some it := fun n hn => by
      rw [hids] at hn
      obtain ⟨it, hit, rfl⟩ := List.mem_map.1 hn
      exact ⟨hids32 it hit, it, Sp.Pl.find_of h.wf hit⟩
    refine (pool_take_scan h hfr hin hlen (fun _ F' W1 w1 => Turns F F' W1 w1) (fun it hit hp W1 h1 ht1 => ?_)).mono ?_
    · refine (pool_drops_clean h1 (hids32 it hit) (Sp.Pl.find_of h.wf hit) (hclean it hit)).mono ?_
      rintro e w' ⟨rfl, F', v', cs', h', ht'⟩
      exact ⟨rfl, F', v', _, _, cs', h', ht'⟩
    · rintro e w' (⟨rfl, hall, ht⟩ | ⟨pre, it, post, hsp, hpre, hfi, hp0, rfl, W1, w1, F', v', s', r', cs', ht1, hX, h', ht2⟩)
      · exact .inl ⟨rfl, ⟨hfr, hall, hb.trans ((ht.below_none).mono hb.size)⟩, ht.wider (fun _ h => h.elim) (fun b hb => .inl hb)⟩
      · refine .inr ⟨it.idx, p.drop it.page.id it.idx, F', F', v', s', r', cs', _, [], rfl, h', ?_, ?_, ?_, fun _ h => h, .inr ⟨pre, it, post, hfr, hsp, hpre, hfi, hp0, rfl, rfl⟩⟩
        · simp [Sp.Pl.drop, hfr]
        · rw [Sp.Pl.find_none] at hf ⊢
          exact fun y hy => hf y (List.mem_filter.1 hy).1
        · have hcb := h'.foot.2.2.1
          refine ⟨ht2.os.trans (hX.os.trans ht1.os), ht2.tape.trans (hX.tape.trans ht1.tape), ht2.output.trans (hX.output.trans ht1.output), Nat.le_trans ht1.size (Nat.le_trans hX.size ht2.size), fun b hb hn => ?_, fun b hb => ?_⟩
          · have hz1 := ht1.size
            have hz2 := hX.size
            rw [ht2.block b (by omega) (fun e => by
              have e : b = cb := e
              rcases hX.foot cb hcb with h | h
              · exact hn (e ▸ h)
              · omega), hX.block b (by omega) hn]
            exact ht1.block b hb (fun e => e)
          · rcases hX.foot b hb with h | h
            · exact .inl h
            · exact .inr (Nat.le_trans ht1.size h)

/-- Pin of a page that is not in, of a pool whose pages are all clean. -/
theorem pool_pin_out' {F D : Foot} {w : World} {gp gd gl at_ base : Nat} {p : Sp.Pl} (h : IsPl F w gp gd gl at_ base p) (hclean : ∀ it ∈ p.items, it.dirty = false) {x : Sp.Pg} (hx : x.wf ∧ x.may) (hf : p.find x.id = none)
    {dk : Sp.Dk} (hdk : IsDk D w gd dk) (hfu : dk.fuse ≠ 0) (hlo : dk.loose = []) (hi : base + x.id * 4 + 4 ≤ dk.sure.length) (hpg : Sp.pageAt dk.sure (base + x.id * 4) = pgBytes x) :
    Calls Tryz.prog 42 #[ptr gp, u32v x.id] w fun e w' =>
      (e = .returned (.tuple #[zeroPgV, .int .i64 4]) ∧ p.free = [] ∧ (∀ it ∈ p.items, 0 < it.pins) ∧ IsPl F w' gp gd gl at_ base p ∧ Turns F F w w') ∨
      ∃ F' A c p' i rest, e = .returned (.tuple #[pgV x A c, .int .i64 0]) ∧ OkAddr A ∧ RowsAt (fun b => w.heap.size ≤ b ∧ ¬ F' b) w' A x.rows ∧ p'.free = i :: rest ∧ p'.find x.id = none ∧
        IsPl F' w' gp gd gl at_ base ((p'.bring x i rest).pinUp x.id) ∧ Turns F F' w w' ∧
        (p' = p ∨ (p.free = [] ∧ ∃ pre it post, p.items = pre ++ it :: post ∧ (∀ y ∈ pre, 0 < y.pins) ∧ it.pins = 0 ∧ p' = p.drop it.page.id it.idx)) := by
  obtain ⟨R, fb, cb, mb, v, s, r, cs, h⟩ := h
  have hlen : (p.items.map (·.page.id)).length ≤ 64 := by
    have := h.wf.len; have := h.wf.n64
    rw [List.length_map]; omega
  refine (pool_pin_out (H := F) h hx hf hdk hfu hlo hi hpg h.lt (ZClean p (p.items.map (·.page.id))) (Z4Clean w p (p.items.map (·.page.id))) (fun W hb hW => take_clean hclean rfl hf W hb hW) (fun i p' ids' H' w2 hZ => ?_)).mono ?_
  · rcases hZ with ⟨_, rfl⟩ | ⟨pre, it, post, _, _, _, _, _, _, rfl⟩
    · exact hlen
    · exact Nat.le_trans (List.length_filter_le _ _) hlen
  rintro e w' (⟨rfl, w2, g4, ⟨hfr, hall, hb⟩, hg4, ht⟩ | ⟨i, p', F', H', ids', rest, w2, F3, R3, v3, s3, r3, cs3, A, c, rfl, hA, hR, h', hfree, hnone, hZ, hF', ht, G, hG, ht3⟩)
  · have hsz := hb.size
    have hb' : Below w.heap.size w w' := hb.trans (ht.below hsz (fun b e => by have e : b = g4 := e; omega))
    refine .inl ⟨rfl, hfr, fun it hit => ?_, ⟨R, fb, cb, mb, v, s, r, cs, h.keep hb'.size (fun b hF => hb'.block b (h.lt b hF))⟩, Turns.of_below hb' F⟩
    obtain ⟨y, hy, hp⟩ := hall it.page.id (List.mem_map.2 ⟨it, hit, rfl⟩)
    rw [Sp.Pl.find_of h.wf hit] at hy
    injection hy with hy
    rw [hy]; exact hp
  · refine .inr ⟨F3, A, c, p', i, rest, rfl, hA, hR, hfree, hnone, ⟨R3, fb, cb, mb, v3, s3, r3, cs3, ?_⟩, ?_, ?_⟩
    · have hids : ids' = p'.items.map (·.page.id) := by
        rcases hZ with ⟨rfl, rfl⟩ | ⟨pre, it, post, _, _, _, _, _, rfl, rfl⟩
        · rfl
        · simp only [Sp.Pl.drop]
          rw [List.filter_map]
          rfl
      have hnot : ids'.filter (fun y => !(y == x.id)) = ids' := by
        rw [List.filter_eq_self]
        intro a ha
        rw [hids] at ha
        obtain ⟨y, hy, rfl⟩ := List.mem_map.1 ha
        have := Sp.Pl.find_none.1 hnone y hy
        simpa using this
      have e2 : (((p'.bring x i rest).pinUp x.id).items.map (·.page.id)) = ids'.filter (fun y => !(y == x.id)) ++ [x.id] := by
        rw [hnot, hids]
        refine (Sp.Pl.upd_ids (p := p'.bring x i rest) (id := x.id) (f := fun y => { y with pins := y.pins + 1 }) ⟨fun _ => rfl, fun _ => rfl⟩).trans ?_
        simp [Sp.Pl.bring]
      rw [e2]
      exact h'
    · refine ⟨ht3.os.trans ht.os, ht3.tape.trans ht.tape, ht3.output.trans ht.output, Nat.le_trans ht.size ht3.size, fun b hb hn => ?_, fun b hb => ?_⟩
      · have hz := ht.size
        rw [ht3.block b (by omega) (fun hh => by
          rcases hh with hh | hh
          · rcases ht.foot b (hF' b hh) with h1 | h1
            · exact hn h1
            · omega
          · have := (hG b hh).2; omega)]
        exact ht.block b hb hn
      · rcases ht3.foot b hb with hh | hh
        · rcases hh with hh | hh
          · exact ht.foot b (hF' b hh)
          · exact .inr (hG b hh).2
        · exact .inr (Nat.le_trans ht.size hh)
    · rcases hZ with ⟨rfl, _⟩ | ⟨pre, it, post, hfr, hsp, hpre, hfi, hp0, rfl, _⟩
      · exact .inl rfl
      · refine .inr ⟨hfr, ?_⟩
        obtain ⟨l1, l2, e1, e2, e3⟩ := List.map_eq_append_iff.1 hsp
        obtain ⟨y, l3, e4, e5, e6⟩ := List.map_eq_cons_iff.1 e3
        have hy : y ∈ p.items := by rw [e1, e4]; simp
        have hye : y = it := by
          have := Sp.Pl.find_of h.wf hy
          rw [e5, hfi] at this
          injection this with this
          exact this.symm
        subst hye
        refine ⟨l1, y, l3, by rw [e1, e4], fun z hz => ?_, hp0, rfl⟩
        obtain ⟨q, hq, hqp⟩ := hpre z.page.id (by rw [← e2]; exact List.mem_map.2 ⟨z, hz, rfl⟩)
        rw [Sp.Pl.find_of h.wf (by rw [e1]; exact List.mem_append_left _ hz)] at hq
        injection hq with hq
        rw [hq]; exact hqp
end Go.Proofs.YtafopojibpifoaaGreat

/- A pool's rows as a plain list of (page, how often pinned); the blocks that are kept. No law's function is named here. -/
namespace Go.Proofs.YtafopojibpifoaaGreat
open Go.RowKit

namespace Sp
/-- the plain list. -/
def Pl.abs (p : Pl) : List (Nat × Nat) := p.items.map fun it => (it.page.id, it.pins)
def aHas (L : List (Nat × Nat)) (k : Nat) : Bool := L.any fun x => x.1 == k
/-- one more pin: it stands last. -/
def aUp (L : List (Nat × Nat)) (k : Nat) : List (Nat × Nat) := L.filter (fun x => x.1 != k) ++ (L.filter (fun x => x.1 == k)).map fun x => (x.1, x.2 + 1)
/-- the first that is not pinned goes. -/
def aDrop : List (Nat × Nat) → Option (List (Nat × Nat))
  | [] => none
  | x :: L => if x.2 = 0 then some L else (aDrop L).map (x :: ·)
/-- Pin: none: there is no room. -/
def aPin (n : Nat) (L : List (Nat × Nat)) (k : Nat) : Option (List (Nat × Nat)) :=
  if aHas L k then some (aUp L k) else if L.length < n then some (L ++ [(k, 1)]) else (aDrop L).map (· ++ [(k, 1)])
def aUnpin (L : List (Nat × Nat)) (k : Nat) : List (Nat × Nat) := L.map fun x => if x.1 = k then (x.1, x.2 - 1) else x

theorem aHas_iff {p : Pl} {k : Nat} : aHas p.abs k = true ↔ (p.find k).isSome := by
  unfold aHas Pl.abs Pl.find
  rw [List.any_map, List.find?_isSome, List.any_eq_true]
  rfl

theorem abs_last {p : Pl} (k : Nat) : ((p.pinUp k).last k).abs = aUp p.abs k := by
  unfold Pl.last Pl.pinUp Pl.upd Pl.abs aUp
  simp only [List.map_append, List.filter_map, List.map_map]
  congr 1
  · have e : ((fun x : It => x.page.id != k) ∘ fun x => if x.page.id = k then { x with pins := x.pins + 1 } else x) = ((fun x : Nat × Nat => x.1 != k) ∘ fun it : It => (it.page.id, it.pins)) := by
      funext x
      simp only [Function.comp]
      split <;> simp_all
    rw [e]
    apply List.map_congr_left
    intro x hx
    have hne : x.page.id ≠ k := by simpa using (List.mem_filter.1 hx).2
    simp [Function.comp, hne]
  · have e : ((fun x : It => x.page.id == k) ∘ fun x => if x.page.id = k then { x with pins := x.pins + 1 } else x) = ((fun x : Nat × Nat => x.1 == k) ∘ fun it : It => (it.page.id, it.pins)) := by
      funext x
      simp only [Function.comp]
      split <;> simp_all
    rw [e]
    apply List.map_congr_left
    intro x hx
    have he : x.page.id = k := by simpa using (List.mem_filter.1 hx).2
    simp [Function.comp, he]
theorem abs_bring {p : Pl} {x : Pg} {i : Nat} {rest : List Nat} (hn : p.find x.id = none) : ((p.bring x i rest).pinUp x.id).abs = p.abs ++ [(x.id, 1)] := by
  have hn' := Pl.find_none.1 hn
  unfold Pl.bring Pl.pinUp Pl.upd Pl.abs
  simp only [List.map_append, List.map_map, List.map_cons, List.map_nil]
  congr 1
  · apply List.map_congr_left
    intro y hy
    simp [Function.comp, hn' y hy]
theorem abs_unpin {p : Pl} (k : Nat) : (p.upd k fun x => { x with pins := x.pins - 1 }).abs = aUnpin p.abs k := by
  unfold Pl.upd Pl.abs aUnpin
  simp only [List.map_map]
  apply List.map_congr_left
  intro x _
  simp only [Function.comp]
  split <;> rfl
theorem aDrop_split : ∀ (pre : List (Nat × Nat)) (x : Nat × Nat) (post : List (Nat × Nat)), (∀ y ∈ pre, 0 < y.2) → x.2 = 0 → aDrop (pre ++ x :: post) = some (pre ++ post)
  | [], x, post, _, h => by simp [aDrop, h]
  | y :: pre, x, post, hp, h => by
    have hy := hp y (List.mem_cons_self)
    have ih := aDrop_split pre x post (fun z hz => hp z (List.mem_cons_of_mem _ hz)) h
    simp only [List.cons_append, aDrop]
    rw [if_neg (by omega), ih]; rfl
theorem aDrop_none : ∀ (L : List (Nat × Nat)), (∀ y ∈ L, 0 < y.2) → aDrop L = none
  | [], _ => rfl
  | y :: L, h => by
    have hy := h y (List.mem_cons_self)
    simp only [aDrop]
    rw [if_neg (by omega), aDrop_none L (fun z hz => h z (List.mem_cons_of_mem _ hz))]; rfl
theorem abs_drop {p : Pl} (h : p.wf) {pre post : List It} {it : It} (e : p.items = pre ++ it :: post) : (p.drop it.page.id it.idx).abs = (pre ++ post).map fun it => (it.page.id, it.pins) := by
  have hn := h.ids
  rw [e, List.map_append, List.map_cons, List.nodup_append] at hn
  obtain ⟨_, h2, h3⟩ := hn
  rw [List.nodup_cons] at h2
  unfold Pl.drop Pl.abs
  simp only [e, List.filter_append]
  rw [List.filter_cons_of_neg (by simp)]
  congr 2
  · rw [List.filter_eq_self]
    intro y hy
    have := h3 _ (List.mem_map.2 ⟨y, hy, rfl⟩) it.page.id (List.mem_cons_self)
    simpa using this
  · rw [List.filter_eq_self]
    intro y hy
    have : y.page.id ≠ it.page.id := fun e => h2.1 (List.mem_map.2 ⟨y, hy, e⟩)
    simpa using this
end Sp

/-- The blocks of K are kept. -/
structure Kept (K : Foot) (w w' : World) : Prop where
  os : w'.os = w.os
  tape : w'.tape = w.tape
  output : w'.output = w.output
  size : w.heap.size ≤ w'.heap.size
  block : ∀ b, K b → w'.heap[b]? = w.heap[b]?
theorem Kept.refl (K : Foot) (w : World) : Kept K w w := ⟨rfl, rfl, rfl, Nat.le_refl _, fun _ _ => rfl⟩
theorem Kept.trans {K : Foot} {w w' w'' : World} (h : Kept K w w') (h' : Kept K w' w'') : Kept K w w'' :=
  ⟨h'.os.trans h.os, h'.tape.trans h.tape, h'.output.trans h.output, Nat.le_trans h.size h'.size, fun b hb => (h'.block b hb).trans (h.block b hb)⟩
theorem Kept.mono {K K' : Foot} {w w' : World} (h : Kept K w w') (hk : ∀ b, K' b → K b) : Kept K' w w' := ⟨h.os, h.tape, h.output, h.size, fun b hb => h.block b (hk b hb)⟩
theorem Kept.below {K : Foot} {w w' : World} (h : Kept K w w') {B : Nat} (hk : ∀ b, b < B → K b) : Below B w w' := ⟨h.os, h.tape, h.output, h.size, fun b hb => h.block b (hk b hb)⟩
theorem Kept.of_below {K : Foot} {w w' : World} {B : Nat} (h : Below B w w') (hk : ∀ b, K b → b < B) : Kept K w w' := ⟨h.os, h.tape, h.output, h.size, fun b hb => h.block b (hk b hb)⟩
theorem Kept.of_turns {K F F' : Foot} {w w' : World} (h : Turns F F' w w') (hk : ∀ b, K b → b < w.heap.size ∧ ¬ F b) : Kept K w w' := ⟨h.os, h.tape, h.output, h.size, fun b hb => h.block b (hk b hb).1 (hk b hb).2⟩
theorem Blk.kept {K : Foot} {w w' : World} {g : Nat} {t : TypeId} {cs : Array Value} (h : Blk w g t cs) (hk : Kept K w w') (hg : K g) : Blk w' g t cs := (hk.block g hg).trans h
end Go.Proofs.YtafopojibpifoaaGreat

/- A pool in memory on a disk laid out in whatever way, which has given pages from 1 on; what its calls do to the plain list. -/
namespace Go.Proofs.YtafopojibpifoaaGreat
open Go.RowKit

/-- How a disk is laid out: where the area of the twin is, where the homes, the last page, how many sectors. -/
structure Ly where
  at_ : Nat
  base : Nat
  top : Nat
  len : Nat
  fits : base + top * 4 + 4 ≤ len
  small : top < 1000

/-- Pages 1 to top are pages. -/
def PgOkT (ly : Ly) (pg : Nat → Sp.Pg) : Prop := ∀ q, 1 ≤ q → q ≤ ly.top → (pg q).wf ∧ (pg q).may ∧ (pg q).id = q
/-- A disk that has them. -/
structure DkT (ly : Ly) (pg : Nat → Sp.Pg) (dk : Sp.Dk) : Prop where
  len : dk.sure.length = ly.len
  loose : dk.loose = []
  fuse : dk.fuse = -1
  page : ∀ q, 1 ≤ q → q ≤ ly.top → Sp.pageAt dk.sure (ly.base + q * 4) = pgBytes (pg q)
def Sp.Pl.ofT (ly : Ly) (pg : Nat → Sp.Pg) (p : Sp.Pl) : Prop := ∀ it ∈ p.items, it.dirty = false ∧ it.page = pg it.page.id ∧ 1 ≤ it.page.id ∧ it.page.id ≤ ly.top

/-- A pool (block gp), its disk (block gd); the blocks of K are none of theirs. -/
def DgAt (ly : Ly) (pg : Nat → Sp.Pg) (K : Foot) (w : World) (gd gl gp n : Nat) (L : List (Nat × Nat)) : Prop :=
  PgOkT ly pg ∧ ∃ (p : Sp.Pl) (D F : Foot) (dk : Sp.Dk), IsDk D w gd dk ∧ DkT ly pg dk ∧ IsPl F w gp gd gl ly.at_ ly.base p ∧ p.n = n ∧ p.ofT ly pg ∧ p.abs = L ∧ (∀ b, D b → ¬ F b) ∧ (∀ b, D b ∨ F b → ¬ K b) ∧ (∀ b, K b → b < w.heap.size)

/-- The block of a page's rows, if it has any. -/
def rowK (A : Option Addr) (n : Nat) : Foot := fun b => 0 < n ∧ ∃ o, A = some ⟨b, o, none⟩
theorem rowK_of {G : Foot} {w : World} {A : Option Addr} {rows : List Sp.Bs} (h : RowsAt G w A rows) {b : Nat} (hb : rowK A rows.length b) : G b ∧ b < w.heap.size := by
  obtain ⟨hn, o, e⟩ := hb
  obtain ⟨b', o', e', hg, hl, _⟩ := h.2 hn
  rw [e'] at e
  injection e with e
  injection e with e1
  subst e1
  exact ⟨hg, hl⟩
theorem rowK_at {G : Foot} {w : World} {A : Option Addr} {rows : List Sp.Bs} (h : RowsAt G w A rows) : RowsAt (fun b => G b ∧ rowK A rows.length b) w A rows :=
  ⟨h.1, fun hn => by
    obtain ⟨b, o, e, hg, hl, hc⟩ := h.2 hn
    exact ⟨b, o, e, ⟨hg, hn, o, e⟩, hl, hc⟩⟩
theorem dg_make' {ly : Ly} {pg : Nat → Sp.Pg} {K K' : Foot} {w w' : World} {gd gl gp n : Nat} {p' : Sp.Pl} {D F F' : Foot} {dk : Sp.Dk} (hok : PgOkT ly pg) (hd : IsDk D w gd dk) (hlk : DkT ly pg dk) (hpl : IsPl F' w' gp gd gl ly.at_ ly.base p') (hn : p'.n = n) (hfr : p'.ofT ly pg) (hDF : ∀ b, D b → ¬ F b) (hK : ∀ b, D b ∨ F b → ¬ K b)
    (hb : ∀ b, K b → b < w.heap.size) (ht : Turns F F' w w') (hK' : ∀ b, K' b → K b ∨ (w.heap.size ≤ b ∧ b < w'.heap.size ∧ ¬ F' b)) : DgAt ly pg K' w' gd gl gp n p'.abs := by
  have hin := hd.in_
  refine ⟨hok, p', D, F', dk, hd.keep (fun b hD => ht.block b (hin b hD) (hDF b hD)), hlk, hpl, hn, hfr, rfl, fun b hD hF => ?_, fun b h hk => ?_, fun b h => ?_⟩
  · rcases ht.foot b hF with h | h
    · exact hDF b hD h
    · have := hin b hD; omega
  · rcases hK' b hk with hk | ⟨h1, h2, h3⟩
    · rcases h with h | h
      · exact hK b (.inl h) hk
      · rcases ht.foot b h with h | h
        · exact hK b (.inr h) hk
        · have := hb b hk; omega
    · rcases h with h | h
      · have := hin b h; omega
      · exact h3 h
  · rcases hK' b h with h | h
    · exact Nat.lt_of_lt_of_le (hb b h) ht.size
    · exact h.2.1
theorem dg_make {ly : Ly} {pg : Nat → Sp.Pg} {K : Foot} {w w' : World} {gd gl gp n : Nat} {p' : Sp.Pl} {D F F' : Foot} {dk : Sp.Dk} (hok : PgOkT ly pg) (hd : IsDk D w gd dk) (hlk : DkT ly pg dk) (hpl : IsPl F' w' gp gd gl ly.at_ ly.base p') (hn : p'.n = n) (hfr : p'.ofT ly pg) (hDF : ∀ b, D b → ¬ F b) (hK : ∀ b, D b ∨ F b → ¬ K b)
    (hb : ∀ b, K b → b < w.heap.size) (ht : Turns F F' w w') : DgAt ly pg K w' gd gl gp n p'.abs := by
  have hin := hd.in_
  refine ⟨hok, p', D, F', dk, hd.keep (fun b hD => ht.block b (hin b hD) (hDF b hD)), hlk, hpl, hn, hfr, rfl, fun b hD hF => ?_, fun b h hk => ?_, fun b h => Nat.lt_of_lt_of_le (hb b h) ht.size⟩
  · rcases ht.foot b hF with h | h
    · exact hDF b hD h
    · have := hin b hD; omega
  · rcases h with h | h
    · exact hK b (.inl h) hk
    · rcases ht.foot b h with h | h
      · exact hK b (.inr h) hk
      · have := hb b hk; omega

theorem dg_len {ly : Ly} {pg : Nat → Sp.Pg} {K : Foot} {w : World} {gd gl gp n : Nat} {L : List (Nat × Nat)} (h : DgAt ly pg K w gd gl gp n L) : L.length ≤ n ∧ (L.map (·.1)).Nodup ∧ ∀ x ∈ L, 1 ≤ x.1 ∧ x.1 ≤ ly.top := by
  obtain ⟨hok, p, D, F, dk, hd, hlk, hpl, rfl, hfr, rfl, hDF, hb0⟩ := h
  have hl := hpl.wf.len
  have hids := hpl.wf.ids
  refine ⟨by simp [Sp.Pl.abs]; omega, ?_, fun x hx => ?_⟩
  · have e1 : p.abs.map (·.1) = p.items.map (·.page.id) := by simp [Sp.Pl.abs, Function.comp]
    rw [e1]; exact hids
  · obtain ⟨it, hit, rfl⟩ := List.mem_map.1 hx
    exact ⟨(hfr it hit).2.2.1, (hfr it hit).2.2.2⟩

/-- The blocks made meanwhile are none of theirs. -/
theorem DgAt.more {ly : Ly} {pg : Nat → Sp.Pg} {K K' : Foot} {w w' : World} {gd gl gp n : Nat} {L : List (Nat × Nat)} (h : DgAt ly pg K w gd gl gp n L) (hb : Below w.heap.size w w') (hK : ∀ b, K' b → K b ∨ (w.heap.size ≤ b ∧ b < w'.heap.size)) : DgAt ly pg K' w' gd gl gp n L := by
  obtain ⟨hok, p, D, F, dk, hd, hlk, hpl, hn, hfr, hL, hDF, hb0, hKl⟩ := h
  have hin := hd.in_
  have hlt := hpl.lt
  refine ⟨hok, p, D, F, dk, hd.below hb, hlk, hpl.below hb, hn, hfr, hL, hDF, fun b h hk => ?_, fun b hk => ?_⟩
  · rcases hK b hk with h' | h'
    · exact hb0 b h h'
    · rcases h with h | h
      · have := hin b h; omega
      · have := hlt b h; omega
  · rcases hK b hk with h' | h'
    · exact Nat.lt_of_lt_of_le (hKl b h') hb.size
    · exact h'.2
theorem DgAt.below {ly : Ly} {pg : Nat → Sp.Pg} {K : Foot} {w w' : World} {gd gl gp n : Nat} {L : List (Nat × Nat)} (h : DgAt ly pg K w gd gl gp n L) (hb : Below w.heap.size w w') : DgAt ly pg K w' gd gl gp n L := h.more hb (fun _ h => .inl h)
theorem DgAt.lt {ly : Ly} {pg : Nat → Sp.Pg} {K : Foot} {w : World} {gd gl gp n : Nat} {L : List (Nat × Nat)} (h : DgAt ly pg K w gd gl gp n L) : ∀ b, K b → b < w.heap.size := by
  obtain ⟨_, p, D, F, dk, _, _, _, _, _, _, _, _, h⟩ := h
  exact h

/-- What Pin answers, and leaves. -/
def PinDg (ly : Ly) (pg : Nat → Sp.Pg) (K : Foot) (w : World) (gd gl gp n : Nat) (L : List (Nat × Nat)) (k : Nat) (e : Ending) (w' : World) : Prop :=
  Kept K w w' ∧ ((Sp.aPin n L k = none ∧ e = .returned (.tuple #[zeroPgV, .int .i64 4]) ∧ DgAt ly pg K w' gd gl gp n L) ∨
    ∃ L' A c, Sp.aPin n L k = some L' ∧ e = .returned (.tuple #[pgV (pg k) A c, .int .i64 0]) ∧ OkAddr A ∧ RowsAt (fun b => w.heap.size ≤ b ∧ rowK A (pg k).rows.length b) w' A (pg k).rows ∧ DgAt ly pg (fun b => K b ∨ rowK A (pg k).rows.length b) w' gd gl gp n L')

theorem dg_pin {ly : Ly} {pg : Nat → Sp.Pg} {K : Foot} {w : World} {gd gl gp n : Nat} {L : List (Nat × Nat)} (h : DgAt ly pg K w gd gl gp n L) {k : Nat} (h1 : 1 ≤ k) (hT : k ≤ ly.top) (hs : ∀ x ∈ L, x.2 < 1000000) :
    Calls Tryz.prog 42 #[ptr gp, u32v k] w (PinDg ly pg K w gd gl gp n L k) := by
  obtain ⟨hok, p, D, F, dk, hd, hlk, hpl, rfl, hfr, rfl, hDF, hb0, hKl⟩ := h
  have hwf := hpl.wf
  cases hf : p.find k with
  | some it =>
    obtain ⟨hit, hk⟩ := Sp.Pl.find_mem hf
    have hpg : it.page = pg k := by rw [← hk]; exact (hfr it hit).2.1
    have hsm := hs (it.page.id, it.pins) (List.mem_map.2 ⟨it, hit, rfl⟩)
    have hsm : it.pins < 1000000 := hsm
    refine (pool_pin_in' hpl (by have := ly.small; omega) hf (by omega)).mono ?_
    rintro e w' ⟨F', A, c, rfl, hA, hR, h', ht⟩
    rw [hpg] at hR ⊢
    have hfr' : ((p.pinUp k).last k).ofT ly pg := fun y hy => by
      have hy' := (Sp.Pl.last_perm (p.pinUp k) k).mem_iff.1 hy
      obtain ⟨x, hx, rfl⟩ := Sp.Pl.upd_mem hy'
      split <;> exact hfr x hx
    refine ⟨Kept.of_turns ht (fun b hk => ⟨hKl b hk, fun hF => hb0 b (.inr hF) hk⟩), .inr ⟨Sp.aUp p.abs k, A, c, ?_, rfl, hA, (rowK_at hR).mono (fun b hb => ⟨hb.1.1, hb.2⟩), ?_⟩⟩
    · unfold Sp.aPin
      rw [if_pos (Sp.aHas_iff.2 (by rw [hf]; rfl))]
    · rw [← Sp.abs_last]
      exact dg_make' hok hd hlk h' rfl hfr' hDF hb0 hKl ht (fun b hb => hb.imp id (fun hb => by
        obtain ⟨h1, h2⟩ := rowK_of hR hb
        exact ⟨h1.1, h2, h1.2⟩))
  | none =>
    have hno : Sp.aHas p.abs k = false := by
      cases ha : Sp.aHas p.abs k with
      | false => rfl
      | true => rw [Sp.aHas_iff, hf] at ha; cases ha
    have hid : (pg k).id = k := (hok k h1 hT).2.2
    have hlen : p.abs.length = p.items.length := by simp [Sp.Pl.abs]
    have hwl := hwf.len
    have HC := pool_pin_out' (x := pg k) hpl (fun it hit => (hfr it hit).1) ⟨(hok k h1 hT).1, (hok k h1 hT).2.1⟩ (by rw [hid]; exact hf) hd (by rw [hlk.fuse]; decide) hlk.loose (by rw [hlk.len, hid]; have := ly.fits; omega) (by rw [hid]; exact hlk.page k h1 hT)
    rw [hid] at HC
    refine HC.mono ?_
    rintro e w' (⟨rfl, hfree, hall, h', ht⟩ | ⟨F', A, c, p', i, rest, rfl, hA, hR, hfree, hnone, h', ht, hp'⟩)
    · refine ⟨Kept.of_turns ht (fun b hk => ⟨hKl b hk, fun hF => hb0 b (.inr hF) hk⟩), .inl ⟨?_, rfl, dg_make hok hd hlk h' rfl hfr hDF hb0 hKl ht⟩⟩
      unfold Sp.aPin
      rw [hfree, List.length_nil] at hwl
      rw [hno, if_neg (by simp), if_neg (by omega), Sp.aDrop_none _ (fun y hy => by
        obtain ⟨it, hit, rfl⟩ := List.mem_map.1 hy
        exact hall it hit)]
      rfl
    · have hsub : ∀ y ∈ p'.items, y ∈ p.items := by
        rcases hp' with rfl | ⟨_, pre, it, post, _, _, _, rfl⟩
        · exact fun y hy => hy
        · exact fun y hy => (List.mem_filter.1 hy).1
      have hfr' : ((p'.bring (pg k) i rest).pinUp k).ofT ly pg := fun y hy => by
        obtain ⟨x, hx, rfl⟩ := Sp.Pl.upd_mem hy
        have hx' : x.dirty = false ∧ x.page = pg x.page.id ∧ 1 ≤ x.page.id ∧ x.page.id ≤ ly.top := by
          rcases List.mem_append.1 hx with hx | hx
          · exact hfr x (hsub x hx)
          · rw [List.mem_singleton.1 hx]
            exact ⟨rfl, by rw [hid], by rw [hid]; exact h1, by rw [hid]; exact hT⟩
        split <;> exact hx'
      have hpn : p'.n = p.n := by
        rcases hp' with rfl | ⟨_, pre, it, post, _, _, _, rfl⟩ <;> rfl
      have habs : Sp.aPin p.n p.abs k = some (p'.abs ++ [(k, 1)]) := by
        unfold Sp.aPin
        rw [hno, if_neg (by simp)]
        rcases hp' with rfl | ⟨hf0, pre, it, post, hsp, hpre, hp0, rfl⟩
        · rw [hfree, List.length_cons] at hwl
          rw [if_pos (by omega)]
        · rw [hf0, List.length_nil] at hwl
          rw [if_neg (by omega), Sp.abs_drop hwf hsp]
          unfold Sp.Pl.abs
          rw [hsp, List.map_append, List.map_cons, Sp.aDrop_split _ _ _ (fun y hy => by
            obtain ⟨z, hz, rfl⟩ := List.mem_map.1 hy
            exact hpre z hz) hp0, List.map_append]
          rfl
      refine ⟨Kept.of_turns ht (fun b hk => ⟨hKl b hk, fun hF => hb0 b (.inr hF) hk⟩), .inr ⟨_, A, c, habs, rfl, hA, (rowK_at hR).mono (fun b hb => ⟨hb.1.1, hb.2⟩), ?_⟩⟩
      have ha := Sp.abs_bring (x := pg k) (i := i) (rest := rest) (by rw [hid]; exact hnone)
      rw [hid] at ha
      rw [← ha]
      exact dg_make' hok hd hlk h' hpn hfr' hDF hb0 hKl ht (fun b hb => hb.imp id (fun hb => by
        obtain ⟨h1, h2⟩ := rowK_of hR hb
        exact ⟨h1.1, h2, h1.2⟩))

theorem dg_unpin {ly : Ly} {pg : Nat → Sp.Pg} {K : Foot} {w : World} {gd gl gp n : Nat} {L : List (Nat × Nat)} (h : DgAt ly pg K w gd gl gp n L) {k m : Nat} (hk : k < 4294967296) (hm : (k, m) ∈ L) (h0 : 1 ≤ m) :
    Calls Tryz.prog 43 #[ptr gp, u32v k] w fun e w' => e = .returned (.int .i64 0) ∧ Kept K w w' ∧ DgAt ly pg K w' gd gl gp n (Sp.aUnpin L k) := by
  obtain ⟨hok, p, D, F, dk, hd, hlk, hpl, rfl, hfr, rfl, hDF, hb0, hKl⟩ := h
  obtain ⟨it, hit, e⟩ := List.mem_map.1 hm
  injection e with e1 e2
  have hf := Sp.Pl.find_of hpl.wf hit
  rw [e1] at hf
  refine (pool_unpin hpl hk hf (by omega)).mono ?_
  rintro e w' ⟨rfl, h', ht⟩
  refine ⟨rfl, Kept.of_turns ht (fun b hk => ⟨hKl b hk, fun hF => hb0 b (.inr hF) hk⟩), ?_⟩
  rw [← Sp.abs_unpin]
  refine dg_make hok hd hlk h' rfl (fun y hy => ?_) hDF hb0 hKl ht
  obtain ⟨x, hx, rfl⟩ := Sp.Pl.upd_mem hy
  split <;> exact hfr x hx

/-- Where nothing is pinned a page can be pinned, and unpinned. -/
theorem Sp.aPin_zero' {n : Nat} (hn : 1 ≤ n) {L : List (Nat × Nat)} {k : Nat} (hz : ∀ x ∈ L, x.2 = 0) (hl : L.length ≤ n) :
    ∃ L', Sp.aPin n L k = some L' ∧ (k, 1) ∈ L' ∧ ∀ x ∈ Sp.aUnpin L' k, x.2 = 0 := by
  unfold Sp.aPin
  by_cases ha : Sp.aHas L k = true
  · rw [if_pos ha]
    refine ⟨_, rfl, ?_, fun x hx => ?_⟩
    · unfold Sp.aHas at ha
      obtain ⟨y, hy, e⟩ := List.any_eq_true.1 ha
      have e' : y.1 = k := by simpa using e
      refine List.mem_append.2 (.inr (List.mem_map.2 ⟨y, List.mem_filter.2 ⟨hy, e⟩, ?_⟩))
      rw [hz y hy, e']
    · obtain ⟨y, hy, rfl⟩ := List.mem_map.1 hx
      rcases List.mem_append.1 hy with h | h
      · have h0 := hz y (List.mem_filter.1 h).1
        split
        · show y.2 - 1 = 0; omega
        · exact h0
      · obtain ⟨z, hz', rfl⟩ := List.mem_map.1 h
        have h0 := hz z (List.mem_filter.1 hz').1
        have e' : z.1 = k := by simpa using (List.mem_filter.1 hz').2
        rw [if_pos e']
        show z.2 + 1 - 1 = 0; omega
  · rw [if_neg ha]
    have fin : ∀ M : List (Nat × Nat), (∀ x ∈ M, x.2 = 0) → (k, 1) ∈ M ++ [(k, 1)] ∧ ∀ x ∈ Sp.aUnpin (M ++ [(k, 1)]) k, x.2 = 0 := fun M hM => by
      refine ⟨by simp, fun x hx => ?_⟩
      obtain ⟨y, hy, rfl⟩ := List.mem_map.1 hx
      rcases List.mem_append.1 hy with h | h
      · have h0 := hM y h
        split
        · show y.2 - 1 = 0; omega
        · exact h0
      · rw [List.mem_singleton.1 h, if_pos rfl]; rfl
    by_cases hlt : L.length < n
    · rw [if_pos hlt]
      exact ⟨_, rfl, (fin L hz).1, (fin L hz).2⟩
    · rw [if_neg hlt]
      cases L with
      | nil => simp at hlt; omega
      | cons x M =>
        have e : Sp.aDrop (x :: M) = some M := by unfold Sp.aDrop; rw [if_pos (hz x (by simp))]
        rw [e]
        exact ⟨_, rfl, (fin M (fun y hy => hz y (by simp [hy]))).1, (fin M (fun y hy => hz y (by simp [hy]))).2⟩

/-- A pool of n frames on the given pages, none of them pinned. -/
def DzAt (ly : Ly) (pg : Nat → Sp.Pg) (K : Foot) (w : World) (gd gl gp n : Nat) : Prop := 1 ≤ n ∧ ∃ L, DgAt ly pg K w gd gl gp n L ∧ ∀ x ∈ L, x.2 = 0
theorem DzAt.more {ly : Ly} {pg : Nat → Sp.Pg} {K K' : Foot} {w w' : World} {gd gl gp n : Nat} (h : DzAt ly pg K w gd gl gp n) (hb : Below w.heap.size w w') (hK : ∀ b, K' b → K b ∨ (w.heap.size ≤ b ∧ b < w'.heap.size)) : DzAt ly pg K' w' gd gl gp n := by
  obtain ⟨h1, L, h, hz⟩ := h
  exact ⟨h1, L, h.more hb hK, hz⟩
theorem DzAt.below {ly : Ly} {pg : Nat → Sp.Pg} {K : Foot} {w w' : World} {gd gl gp n : Nat} (h : DzAt ly pg K w gd gl gp n) (hb : Below w.heap.size w w') : DzAt ly pg K w' gd gl gp n := h.more hb (fun _ h => .inl h)
theorem DzAt.lt {ly : Ly} {pg : Nat → Sp.Pg} {K : Foot} {w : World} {gd gl gp n : Nat} (h : DzAt ly pg K w gd gl gp n) : ∀ b, K b → b < w.heap.size := by
  obtain ⟨_, L, h, _⟩ := h
  exact h.lt
theorem DzAt.ok {ly : Ly} {pg : Nat → Sp.Pg} {K : Foot} {w : World} {gd gl gp n : Nat} (h : DzAt ly pg K w gd gl gp n) : PgOkT ly pg := by
  obtain ⟨_, L, h, _⟩ := h
  exact h.1
end Go.Proofs.YtafopojibpifoaaGreat

/- Taking an operation first, in one word: the sides are proved by themselves. No program is named here. -/
namespace Go.Proofs.YtafopojibpifoaaGreat
open Go.RowKit

section
variable {P : Program} {ops : Array Oper} {Q : Exit → Act → World → Prop} {md : Region.Mode} {S : World → Prop} {X : Nat → Bool}
theorem R_tk (i : Nat) (t : Tmp) {v : Value} {oi : Oper} {fuel : Nat} {listed : Array Bool} {a : Act} {w : World} (hS : S w)
    (h : wpAnyL P md ops Q S X fuel (listed.setIfInBounds i true) { tmps := a.tmps.setIfInBounds t v, defers := a.defers } w)
    (hi : ops[i]? = some oi := by rfl) (hd : oi.dst = some t := by rfl)
    (hw : Region.wanted oi (yielded ops a.tmps) = true := by rfl)
    (hb : (Region.noSelect ops && Region.free md ops listed i && (Region.ready md ops listed).contains i && allWait md ops X i) = true := by kernel_rfl)
    (hQ : ∀ c a w, Q (.panic c) (a.put (some t) v) w → Q (.panic c) a w := by exact fun _ _ _ h => h)
    (hy : ∀ w, S w → (execOp a.eval oi).run P w = .ok (.value v) w := by intro w hSw; (try dsimp only at hSw); (try simp only [List.setIfInBounds_toArray, List.set_cons_zero, List.set_cons_succ]); go_simp; (try with_reducible rfl)) :
    wpAnyL P md ops Q S X (fuel + 1) listed a w := R_take i t hi hd hw hb hQ hS hy h
end
end Go.Proofs.YtafopojibpifoaaGreat

/- The walks of packages act and tree: how they begin; act.Page of given pages. -/
namespace Go.Proofs.YtafopojibpifoaaGreat
open Go.RowKit Go.Conc

/-- Blocks that are kept were turned by somebody else. -/
theorem DgAt.turns {ly : Ly} {pg : Nat → Sp.Pg} {K F' : Foot} {w w' : World} {gd gl gp n : Nat} {L : List (Nat × Nat)} (h : DgAt ly pg K w gd gl gp n L) (ht : Turns K F' w w') : DgAt ly pg K w' gd gl gp n L := by
  obtain ⟨hok, p, D, F, dk, hd, hlk, hpl, hn, hfr, hL, hDF, hb0, hKl⟩ := h
  have hin := hd.in_
  have hlt := hpl.lt
  exact ⟨hok, p, D, F, dk, hd.keep (fun b hb => ht.block b (hin b hb) (hb0 b (.inl hb))), hlk, hpl.keep ht.size (fun b hb => ht.block b (hlt b hb) (hb0 b (.inr hb))), hn, hfr, hL, hDF, hb0, fun b hb => Nat.lt_of_lt_of_le (hKl b hb) ht.size⟩
theorem DgAt.less {ly : Ly} {pg : Nat → Sp.Pg} {K K' : Foot} {w : World} {gd gl gp n : Nat} {L : List (Nat × Nat)} (h : DgAt ly pg K w gd gl gp n L) (hk : ∀ b, K' b → K b) : DgAt ly pg K' w gd gl gp n L := by
  obtain ⟨hok, p, D, F, dk, hd, hlk, hpl, hn, hfr, hL, hDF, hb0, hKl⟩ := h
  exact ⟨hok, p, D, F, dk, hd, hlk, hpl, hn, hfr, hL, hDF, fun b h hb => hb0 b h (hk b hb), fun b hb => hKl b (hk b hb)⟩
theorem DgAt.drew {ly : Ly} {pg : Nat → Sp.Pg} {K : Foot} {w : World} {gd gl gp n : Nat} {L : List (Nat × Nat)} (h : DgAt ly pg K w gd gl gp n L) : DgAt ly pg K w.drew gd gl gp n L := h.below (Below.refl _ w).drew
theorem DzAt.turns {ly : Ly} {pg : Nat → Sp.Pg} {K F' : Foot} {w w' : World} {gd gl gp n : Nat} (h : DzAt ly pg K w gd gl gp n) (ht : Turns K F' w w') : DzAt ly pg K w' gd gl gp n := by
  obtain ⟨h1, L, h, hz⟩ := h
  exact ⟨h1, L, h.turns ht, hz⟩
theorem DzAt.less {ly : Ly} {pg : Nat → Sp.Pg} {K K' : Foot} {w : World} {gd gl gp n : Nat} (h : DzAt ly pg K w gd gl gp n) (hk : ∀ b, K' b → K b) : DzAt ly pg K' w gd gl gp n := by
  obtain ⟨h1, L, h, hz⟩ := h
  exact ⟨h1, L, h.less hk, hz⟩

/-- An act (block ga) on a pool of given pages, none of them pinned. -/
structure AcAt (ly : Ly) (pg : Nat → Sp.Pg) (K : Foot) (w : World) (ga gd gl gp n : Nat) : Prop where
  dz : DzAt ly pg K w gd gl gp n
  act : Blk w ga 108 #[ptr gp, ptr gl]
  k : K ga
section
variable {ly : Ly} {pg : Nat → Sp.Pg} {K K' : Foot} {w w' : World} {ga gd gl gp n : Nat}
theorem AcAt.more (h : AcAt ly pg K w ga gd gl gp n) (hb : Below w.heap.size w w') (hK : ∀ b, K' b → K b ∨ (w.heap.size ≤ b ∧ b < w'.heap.size)) (hk : K' ga) : AcAt ly pg K' w' ga gd gl gp n := ⟨h.dz.more hb hK, h.act.below hb h.act.lt, hk⟩
theorem AcAt.below (h : AcAt ly pg K w ga gd gl gp n) (hb : Below w.heap.size w w') : AcAt ly pg K w' ga gd gl gp n := h.more hb (fun _ h => .inl h) h.k
theorem AcAt.turns {T F' : Foot} (h : AcAt ly pg K w ga gd gl gp n) (ht : Turns T F' w w') (hT : ∀ b, T b → K b) (hg : ¬ T ga) : AcAt ly pg K w' ga gd gl gp n :=
  ⟨h.dz.turns (F' := K) ⟨ht.os, ht.tape, ht.output, ht.size, fun b hb hn => ht.block b hb (fun h => hn (hT b h)), fun _ hb => .inl hb⟩, h.act.turns ht hg, h.k⟩
theorem AcAt.less (h : AcAt ly pg K w ga gd gl gp n) (hk : ∀ b, K' b → K b) (hg : K' ga) : AcAt ly pg K' w ga gd gl gp n := ⟨h.dz.less hk, h.act, hg⟩
theorem AcAt.lt (h : AcAt ly pg K w ga gd gl gp n) : ∀ b, K b → b < w.heap.size := h.dz.lt
theorem AcAt.drew (h : AcAt ly pg K w ga gd gl gp n) : AcAt ly pg K w.drew ga gd gl gp n := h.below (Below.refl _ w).drew
end

theorem act_new (gp gl : Nat) (w : World) : Calls Tryz.prog 89 #[ptr gp, ptr gl] w fun e w' => e = .returned (.tuple #[ptr w.heap.size, .int .i64 0]) ∧ w' = w.alloc (.cells #[ptr gp, ptr gl] 108) := by
  go_enter Tryz.func89, Tryz.ntmps89
  go_wp2_with fail
  go_ret2
  exact ⟨rfl, rfl⟩
theorem act_none {w : World} {ga gp gl : Nat} (h : Blk w ga 108 #[ptr gp, ptr gl]) : Calls Tryz.prog 41 #[ptr ga] w fun e w' => e = .returned (.bool false) ∧ w' = w := by
  have c0 := h.cell 0
  have c1 := h.cell 1
  simp only [List.getElem?_toArray, List.getElem?_cons_succ, List.getElem?_cons_zero] at c0 c1
  go_enter Tryz.func41, Tryz.ntmps41
  go_wp2_with fail
  go_ret
  exact ⟨rfl, rfl⟩

theorem page_size : (Tryz.prog.info? 51).map (·.size) = some 6 := by kernel_rfl
theorem page_store {W : World} {g : Nat} {c0 c1 c2 c3 c4 c5 : Value} {p : Sp.Pg} {A : Option Addr} {c : Nat} (h : Blk W g 51 #[c0, c1, c2, c3, c4, c5]) :
    (storeVar 51 ⟨g, 0, none⟩ (pgV p A c)).run Tryz.prog W = .ok () (W.setRow g (pgCs p A c)) :=
  run_storeVar_part W g 0 _ _ _ _ h page_size (by show 0 + 6 ≤ 6; omega) (by simp [Value.oneCell'])

set_option maxRecDepth 100000 in
set_option maxHeartbeats 4000000 in
theorem act_page {ly : Ly} {pg : Nat → Sp.Pg} {K : Foot} {w : World} {ga gd gl gp n : Nat} (h : AcAt ly pg K w ga gd gl gp n) {q : Nat} (h1 : 1 ≤ q) (hT : q ≤ ly.top) :
    Calls Tryz.prog 27 #[ptr ga, u32v q] w fun e w' => ∃ A c, e = .returned (.tuple #[pgV (pg q) A c, .int .i64 0]) ∧ OkAddr A ∧ RowsAt (fun b => w.heap.size ≤ b ∧ rowK A (pg q).rows.length b) w' A (pg q).rows ∧
      AcAt ly pg (fun b => K b ∨ rowK A (pg q).rows.length b) w' ga gd gl gp n ∧ Kept K w w' := by
  have hlt := h.lt
  have hgl := h.act.lt
  have hkg := h.k
  have hb1 := (Below.refl w.heap.size w).alloc (Nat.le_refl _) (.cells #[.int .u8 0, .int .u8 0, .int .u32 0, .int .u64 0, .int .u32 0, .slice none 0 0] 51)
  have hB1 := Blk.new w 51 #[.int .u8 0, .int .u8 0, .int .u32 0, .int .u64 0, .int .u32 0, .slice none 0 0]
  have h2 := h.more (K' := fun b => K b ∨ b = w.heap.size) hb1 (fun b hb => hb.imp id (fun e => by have e : b = w.heap.size := e; simp [e])) (.inl hkg)
  have HN := Lib.hid (act_none h2.act)
  have c0 := h2.act.cell 0
  simp only [List.getElem?_toArray, List.getElem?_cons_zero] at c0
  obtain ⟨hn1, L, hL, hz⟩ := h2.dz
  have hlen := (dg_len hL).1
  obtain ⟨L', hpin, hmem, hz'⟩ := Sp.aPin_zero' hn1 (L := L) (k := q) hz hlen
  have HP := Lib.hid (dg_pin hL h1 hT (fun x hx => by rw [hz x hx]; omega))
  have HH := Lib.hid h2.act
  clear h h2 hL hlen
  go_enter Tryz.func27, Tryz.ntmps27
  go_wp2_with fail
  obtain ⟨g4, hg4⟩ : ∃ g, g = w.heap.size := ⟨_, rfl⟩
  obtain ⟨w1, hw1⟩ : ∃ w1, w1 = w.alloc (.cells #[.int .u8 0, .int .u8 0, .int .u32 0, .int .u64 0, .int .u32 0, .slice none 0 0] 51) := ⟨_, rfl⟩
  rw [← hw1, ← hg4] at HP hB1
  rw [← hw1] at HN c0 hb1 HH
  rw [← hw1, ← hg4]
  have hg4l : w.heap.size ≤ g4 := by omega
  have hne4 : ga ≠ g4 := by omega
  have hg4w1 := hB1.lt
  have hK4 : ∀ b, K b → b ≠ g4 := fun b hb => by have := hlt b hb; omega
  clear hw1
  refine HN.out.mono ?_
  rintro e w1' ⟨rfl, hw⟩
  subst w1'
  go_wp2_with fail
  refine HP.out.mono ?_
  rintro e w2 ⟨hk2, (⟨hno, _⟩ | ⟨L2, A, c, hsm, rfl, hA, hR, hL2⟩)⟩
  · rw [hpin] at hno; cases hno
  obtain rfl : L' = L2 := by rw [hpin] at hsm; injection hsm
  have HACT := Lib.hid (HH.out.kept hk2 (.inl hkg))
  have hB2 := hB1.kept hk2 (.inr rfl)
  have hb3 := (Below.refl w2.heap.size w2).alloc (Nat.le_refl _) (.cells (pgCs (pg q) A c) 51)
  have hB6 := Blk.new w2 51 (pgCs (pg q) A c)
  have hL3 := hL2.more (K' := fun b => ((K b ∨ b = g4) ∨ rowK A (pg q).rows.length b) ∨ b = w2.heap.size) hb3 (fun b hb => hb.imp id (fun e => by have e : b = w2.heap.size := e; simp [e]))
  have hk3 := Kept.of_below hb3 hL2.lt
  have hR3 := Reads.below hR hb3
  have hACT3 := HACT.out.below hb3 HACT.out.lt
  have hB3 := hB2.below hb3 hB2.lt
  have hs2 := hk2.size
  have hL2l := hL2.lt
  have hK13 : Kept K w1 (w2.alloc (.cells (pgCs (pg q) A c) 51)) := (hk2.mono (fun b hb => .inl hb)).trans (hk3.mono (fun b hb => .inl (.inl hb)))
  clear hk2 hsm HP HN HH hL2 hR hB1 hB2 hk3 HACT c0
  go_wp2_with fail
  obtain ⟨w3, hw3⟩ : ∃ w3, w3 = w2.alloc (.cells (pgCs (pg q) A c) 51) := ⟨_, rfl⟩
  obtain ⟨g6, hg6⟩ : ∃ g, g = w2.heap.size := ⟨_, rfl⟩
  rw [← hw3] at hb3 hK13 hR3 hACT3
  rw [← hw3, ← hg6] at hB6
  rw [← hw3] at hB3
  rw [← hw3, ← hg6] at hL3
  change Code.wp _ _ _ _ (w2.alloc (.cells (pgCs (pg q) A c) 51))
  rw [← hw3, ← hg6, ← hg4]
  have hg6l : w1.heap.size ≤ g6 := by omega
  have hne6 : g4 ≠ g6 := by have := hL2l g4 (.inl (.inr rfl)); omega
  have hnG6 : ga ≠ g6 := by have := hL2l ga (.inl (.inl hkg)); omega
  clear hw3 hg6
  have c0 := hACT3.cell 0
  simp only [List.getElem?_toArray, List.getElem?_cons_zero] at c0
  have hS := Lib.hid (show Blk w3.drew g6 51 (pgCs (pg q) A c) ∧ w3.drew.cell? ⟨ga, 0, none⟩ = some (ptr gp) from ⟨hB6, c0⟩)
  have HUN := Lib.hid (dg_unpin hL3.drew (k := q) (by have := ly.small; omega) hmem (Nat.le_refl 1))
  have HA := Lib.hid hA
  refine R_begin (fun W => Blk W g6 51 (pgCs (pg q) A c) ∧ W.cell? ⟨ga, 0, none⟩ = some (ptr gp)) (fun _ => false) rfl ?_
  refine R_tk 1 25 hS.out ?_
  refine R_tk 2 26 hS.out ?_
  refine R_tk 3 27 hS.out ?_
  refine R_tk 4 28 hS.out ?_
  refine R_tk 5 29 hS.out ?_
  refine R_take 0 24 (v := pgV (pg q) A c) rfl rfl (by rfl) (by kernel_rfl) (fun _ _ _ h => h) hS.out ?_ ?_
  · intro w hSw
    exact run_op_load _ _ _ rfl rfl (run_loadVar_row w g6 _ _ _ _ _ hSw.1 Tryz.underlying51 rfl rfl)
  simp only [List.setIfInBounds_toArray, List.set_cons_zero, List.set_cons_succ]
  refine R_call 6 30 (w' := w3.drew) rfl rfl (by rfl) (by kernel_rfl) ?_ HUN.out ?_
  · go_simp
  rintro e w4 ⟨rfl, hk4, hL4⟩
  have hB64 := hB6.drew.kept hk4 (.inr rfl)
  have hACT4 := hACT3.drew.kept hk4 (.inl (.inl (.inl hkg)))
  have hB4 := hB3.drew.kept hk4 (.inl (.inl (.inr rfl)))
  have c0' := hACT4.cell 0
  simp only [List.getElem?_toArray, List.getElem?_cons_zero] at c0'
  refine ⟨_, rfl, fun _ => ⟨hB64, c0'⟩, ?_⟩
  simp only [List.setIfInBounds_toArray, List.set_cons_zero, List.set_cons_succ]
  refine R_store 7 (n := .skip) (w' := w4.setRow g4 (pgCs (pg q) A c)) rfl rfl (by rfl) (by kernel_rfl) ?_ (.inl rfl) (fun _ => ⟨hB64.keep (heap_setRow_other _ _ _ _ (Ne.symm hne6)), (World.cell?_of_block (w := w4) (a := ⟨ga, 0, none⟩) (heap_setRow_other _ _ _ _ hne4)).trans c0'⟩) ?_
  · exact run_op_store _ _ _ _ _ rfl rfl rfl (page_store hB4)
  refine R_tk 8 5 (show Blk (w4.setRow g4 (pgCs (pg q) A c)) g6 51 (pgCs (pg q) A c) ∧ (w4.setRow g4 (pgCs (pg q) A c)).cell? ⟨ga, 0, none⟩ = some (ptr gp) from ⟨hB64.keep (heap_setRow_other _ _ _ _ (Ne.symm hne6)), (World.cell?_of_block (w := w4) (a := ⟨ga, 0, none⟩) (heap_setRow_other _ _ _ _ hne4)).trans c0'⟩) ?_
  simp only [List.setIfInBounds_toArray, List.set_cons_zero, List.set_cons_succ]
  refine R_done (by kernel_rfl) ?_ _
  rename_i K9 hK9
  refine hK9 _ _ ?_
  clear hK9
  have hB5 := hB4.setRow (pgCs (pg q) A c)
  have hT5 := (Turns.refl (only g4) w4).setRow (.inl rfl) (pgCs (pg q) A c)
  have hs34 : w3.heap.size ≤ w4.heap.size := hk4.size
  have hk34 : Kept (fun b => ((K b ∨ b = g4) ∨ rowK A (pg q).rows.length b) ∨ b = g6) w3 w4 := ⟨hk4.os, hk4.tape, hk4.output, hk4.size, hk4.block⟩
  have hs13 := hK13.size
  have hR4 : Reads (fun b => w1.heap.size ≤ b ∧ rowK A (pg q).rows.length b) w4 1 A (pg q).rows.length (rcs (pg q).rows) := hR3.keep hk4.size (fun b hb => hk4.block b (.inl (.inr hb.2)))
  have hR5 := hR4.turns hT5 (show Apart w4 (only g4) _ from fun b hb => ⟨(rowK_of hR4 hb.2).2, fun e => by have e : b = g4 := e; have := hb.1; omega⟩)
  have hL5 := (hL4.turns (F' := fun b => ((K b ∨ b = g4) ∨ rowK A (pg q).rows.length b) ∨ b = g6) ⟨hT5.os, hT5.tape, hT5.output, hT5.size, fun b hb hn => hT5.block b hb (fun e => hn (.inl (.inl (.inr e)))), fun b hb => .inl hb⟩).less (K' := fun b => K b ∨ rowK A (pg q).rows.length b) (fun b hb => hb.elim (fun h => .inl (.inl (.inl h))) (fun h => .inl (.inr h)))
  have hK5 : Kept K w (w4.setRow g4 (pgCs (pg q) A c)) := by
    refine ((Kept.of_below hb1 hlt).trans (hK13.trans (hk34.mono (fun b hb => .inl (.inl (.inl hb)))))).trans ⟨hT5.os, hT5.tape, hT5.output, hT5.size, fun b hb => hT5.block b ?_ (fun e => hK4 b hb e)⟩
    have := hlt b hb; have := hb1.size; omega
  have hACT5 : Blk (w4.setRow g4 (pgCs (pg q) A c)) ga 108 #[ptr gp, ptr gl] := hACT4.turns hT5 (fun e => hne4 e)
  generalize hw5 : World.setRow w4 g4 _ = w5 at hB5 hR5 hL5 hK5 hACT5 ⊢
  have z0 := hB5.cell 0
  have z1 := hB5.cell 1
  have z2 := hB5.cell 2
  have z3 := hB5.cell 3
  have z4 := hB5.cell 4
  have z5 := hB5.cell 5
  simp only [List.getElem?_toArray, List.getElem?_cons_succ, List.getElem?_cons_zero] at z0 z1 z2 z3 z4 z5
  have hs1 : w.heap.size ≤ w1.heap.size := hb1.size
  rw [hg4] at z0 z1 z2 z3 z4 z5
  clear hw5 hT5 hR4 hR3 hL4 hL3 hB4 hB64 c0' hACT4 hB5
  go_wp2_with fail
  exact bodyPost_ret (v := .tuple #[pgV (pg q) A c, .int .i64 0]) (by rw [results_cell_tmp rfl]; go_simp) rfl ⟨A, c, rfl, HA.out, hR5.mono (fun b hb => ⟨by omega, hb.2⟩), ⟨⟨hn1, _, hL5, hz'⟩, hACT5, .inl hkg⟩, hK5⟩
end Go.Proofs.YtafopojibpifoaaGreat

/- The walks of the reference's words: pentimentoref01.Put and what stands on it. -/
namespace Go.Proofs.YtafopojibpifoaaGreat
open Go.RowKit

/-- The bytes of ref01.Put behind t rounds. -/
def rputCells (n size t : Nat) : Array Value := ((List.range size).map fun j => Value.int .u8 (if size ≤ j + t then ((n / 256 ^ (size - 1 - j) % 256 : Nat) : Int) else 0)).toArray
theorem rputCells_zero (n size : Nat) : rputCells n size 0 = (List.replicate size (Value.int .u8 0)).toArray := by
  unfold rputCells
  congr 1
  apply List.ext_getElem?
  intro j
  rw [List.getElem?_map, List.getElem?_replicate]
  by_cases h : j < size
  · rw [List.getElem?_range h, if_pos h]
    simp; omega
  · rw [List.getElem?_eq_none (by simp; omega), if_neg h]; rfl
theorem rputCells_next (n size t : Nat) (ht : t < size) (v : Int) (hv : v = ((n / 256 ^ t % 256 : Nat) : Int)) : (rputCells n size t).setIfInBounds (size - 1 - t) (.int .u8 v) = rputCells n size (t + 1) := by
  subst hv
  unfold rputCells
  apply Array.ext_getElem?
  intro j
  rw [List.setIfInBounds_toArray, List.getElem?_toArray, List.getElem?_toArray, List.getElem?_set, List.getElem?_map]
  by_cases hj : j < size
  · rw [List.getElem?_map, List.getElem?_range hj, Option.map_some, Option.map_some]
    by_cases e : size - 1 - t = j
    · rw [if_pos e]
      have h2 : size - 1 - j = t := by omega
      rw [if_pos (by simp; omega), if_pos (by omega), h2]
    · rw [if_neg e]
      congr 2
      by_cases h3 : size ≤ j + t
      · rw [if_pos h3, if_pos (by omega)]
      · rw [if_neg h3, if_neg (by omega)]
  · have h1 : (List.range size)[j]? = none := List.getElem?_eq_none (by simp; omega)
    rw [List.getElem?_map, h1, if_neg (by omega)]
    rfl
theorem rputCells_at (n size j : Nat) (hj : j < (Sp.be size n).length) : (rputCells n size size)[j]? = some (Value.int .u8 ((Sp.be size n)[j].toNat : Int)) := by
  have hj' : j < size := by simpa using hj
  have h1 := Sp.be_get size n j hj'
  rw [List.getElem?_eq_getElem hj, Option.some.injEq] at h1
  rw [h1]
  unfold rputCells
  rw [List.getElem?_toArray, List.getElem?_map, List.getElem?_range hj', Option.map_some, if_pos (by omega), UInt8.toNat_ofNat']

set_option maxRecDepth 100000 in
set_option maxHeartbeats 2000000 in
theorem ref_put (n size : Nat) (w : World) (h1 : 1 ≤ size) (h8 : size ≤ 8) (hn : n < 256 ^ size) (hn64 : n < 18446744073709551616) :
    Calls Tryz.prog 54 #[.int .u64 n, .int .i64 size] w fun e w' => e = .returned (.tuple #[str (Sp.be size n), .bool true]) ∧ Below w.heap.size w w' := by
  obtain ⟨i0, hi, hz0, hz1, hz2⟩ := info_parts area_info
  have hmk := fun W => run_make_rowN (P := Tryz.prog) 102 5 i0 (.int .u8 0) Tryz.underlying102 hi hz0 .i64 .i64 size size (Nat.le_refl _) (by rw [hz2]; omega) (by omega) W
  simp only [hz1, Nat.mul_one] at hmk
  have d1 : decide ((size : Int) < 1) = false := by simp; omega
  have d2 : decide ((8 : Int) < (size : Int)) = false := by simp; omega
  have hN := Lib.hid hn
  have hN64 := Lib.hid hn64
  clear hn hn64 hi hz0 hz1 hz2
  go_enter Tryz.func54, Tryz.ntmps54
  go_wp2_with fail
  have hB := (Blk.new w 5 (madeCells #[.int .u8 0] size))
  have hb := (Below.refl w.heap.size w).alloc (Nat.le_refl _) (.cells (madeCells #[.int .u8 0] size) 5)
  obtain ⟨w1, hw1⟩ : ∃ w1, w1 = w.alloc (.cells (madeCells #[.int .u8 0] size) 5) := ⟨_, rfl⟩
  rw [← hw1] at hB hb ⊢
  rw [madeCells_one, ← rputCells_zero n size] at hB
  have HB := Lib.hid hB
  clear hw1 hB hmk
  go_loopw [0, 7] (fun x i wr => ∃ m : Nat, m ≤ size ∧ i = .int .i64 ((m : Int) - 1) ∧ x = .int .u64 (n / 256 ^ (size - m) : Nat) ∧ Blk wr w.heap.size 5 (rputCells n size (size - m)) ∧ Below w.heap.size w wr) (fun _ i _ => (intOf i + 1).toNat)
  case atStart => exact ⟨size, Nat.le_refl _, rfl, by rw [Nat.sub_self]; simp, by rw [Nat.sub_self]; exact HB.out, hb⟩
  case round =>
    obtain ⟨m, hm, rfl, rfl, hblk, hbk⟩ := hrel
    clear HB hb
    by_cases hlt : 1 ≤ m
    · have i0 : (0 : Int) ≤ (m : Int) - 1 := by omega
      have i1 : (1 : Int) ≤ (m : Int) := by omega
      have i2 : ((m : Int) - 1).toNat = m - 1 := by omega
      have i3 : (m : Int) - 1 < (size : Int) := by omega
      have d3 : decide ((0 : Int) ≤ (m : Int) - 1) = true := by rw [decide_eq_true_eq]; omega
      have hx : n / 256 ^ (size - m) < 18446744073709551616 := Nat.lt_of_le_of_lt (Nat.div_le_self _ _) hN64.out
      obtain ⟨v0, hv0⟩ : ∃ v, (rputCells n size (size - m))[m - 1]? = some v := ⟨_, Array.getElem?_eq_getElem (by simp [rputCells]; omega)⟩
      have hcell := (hblk.cell (m - 1)).trans hv0
      have hfz := hblk.frozen (m - 1)
      have hnx := rputCells_next n size (size - m) (by omega) (((n / 256 ^ (size - m) : Nat) : Int) % 256) (by simp)
      have e1 : size - 1 - (size - m) = m - 1 := by omega
      have e2 : size - m + 1 = size - (m - 1) := by omega
      rw [e1, e2] at hnx
      have hdv : n / 256 ^ (size - (m - 1)) = n / 256 ^ (size - m) / 256 := by rw [← e2, Nat.pow_succ, Nat.div_div_eq_div_mul]
      have HNX := Lib.hid hnx
      have HDV := Lib.hid hdv
      have HBL := Lib.hid hblk
      clear hv0 hnx hdv hblk e1 e2
      generalize n / 256 ^ (size - m) = x at *
      go_wp2_with fail
      go_roundw
      case rel =>
        refine ⟨m - 1, by omega, ?_, ?_, ?_, hbk.setCell (p := ⟨w.heap.size, m - 1, none⟩) (Nat.le_refl _) _⟩
        · go_num
        · rw [HDV.out]; go_num
        · rw [← HNX.out]; exact HBL.out.set_ _ _
      case measure => simp [intOf]; omega
    · obtain rfl : m = 0 := by omega
      have hz : n / 256 ^ (size - 0) = 0 := by rw [Nat.sub_zero]; exact Nat.div_eq_of_lt hN.out
      rw [hz]
      rw [Nat.sub_zero] at hblk
      have hc0 : ∀ j (hj : j < (Sp.be size n).length), wr.cell? ⟨w.heap.size, 0 + j, none⟩ = some (.int .u8 ((Sp.be size n)[j].toNat : Int)) := fun j hj => by
        rw [Nat.zero_add, hblk.cell]
        exact rputCells_at n size j hj
      have hcv := run_bytes_back wr 102 9 5 w.heap.size 0 size size (Sp.be size n) Tryz.underlying102 Tryz.underlying5 Tryz.underlying9 (by simp) hc0
      clear hc0 hz hblk
      go_wp2_with fail
      go_ret2
      exact ⟨rfl, hbk⟩

set_option maxRecDepth 100000 in
theorem ref07_num (n size : Nat) (w : World) (h1 : 1 ≤ size) (h8 : size ≤ 8) (hn : n < 256 ^ size) (hn64 : n < 18446744073709551616) :
    Calls Tryz.prog 36 #[.int .u64 n, .int .i64 size] w fun e w' => e = .returned (str (Sp.be size n)) ∧ Below w.heap.size w w' := by
  have HP := Lib.hid (ref_put n size w h1 h8 hn hn64)
  clear hn hn64
  go_enter Tryz.func36, Tryz.ntmps36
  go_wp2_with fail
  refine HP.out.mono ?_
  rintro e w1 ⟨rfl, hb⟩
  go_wp2_with fail
  go_ret
  exact ⟨rfl, hb⟩
set_option maxRecDepth 100000 in
theorem row_number (n size : Nat) (w : World) (h1 : 1 ≤ size) (h8 : size ≤ 8) (hn : n < 256 ^ size) (hn64 : n < 18446744073709551616) :
    Calls Tryz.prog 70 #[.int .u64 n, .int .i64 size] w fun e w' => e = .returned (str (Sp.be size n)) ∧ Below w.heap.size w w' := by
  have HP := Lib.hid (word_put n size w h1 h8 hn hn64)
  clear hn hn64
  go_enter Tryz.func70, Tryz.ntmps70
  go_wp2_with fail
  refine HP.out.mono ?_
  rintro e w1 ⟨rfl, hb⟩
  go_wp2_with fail
  go_ret
  exact ⟨rfl, hb⟩
end Go.Proofs.YtafopojibpifoaaGreat

/- The walks of rows as bytes: pentimentoref07 and package row, May and Encode. -/
namespace Go.Proofs.YtafopojibpifoaaGreat
open Go.RowKit

/-- A row's cells. -/
abbrev rwCs (r : Sp.Rw) : List Value := [str r.key, .bool r.mark, .int .u64 r.tx, .int .u32 r.page, .int .u16 r.slot, str r.value, .int .i64 r.pad]
abbrev rwV (r : Sp.Rw) : Value := .agg #[str r.key, .bool r.mark, .int .u64 r.tx, .int .u32 r.page, .int .u16 r.slot, str r.value, .int .i64 r.pad]

set_option maxRecDepth 100000 in
set_option maxHeartbeats 1000000 in
theorem ref07_may (r : Sp.Rw) (h : r.may) (w : World) : Calls Tryz.prog 35 #[rwV r] w fun e w' => e = .returned (.bool true) ∧ Below w.heap.size w w' := by
  obtain ⟨key, mark, tx, page, slot, value, pad⟩ := r
  obtain ⟨h1, h2, h3, h4, h5⟩ := h
  dsimp only at h1 h2 h3 h4 h5
  have d1 : decide ((key.length : Int) < 1) = false := by rw [decide_eq_false_iff_not]; omega
  have d2 : decide ((48 : Int) < key.length) = false := by rw [decide_eq_false_iff_not]; omega
  have d3 : decide ((pad : Int) < 0) = false := by rw [decide_eq_false_iff_not]; omega
  have d4 : decide ((96 : Int) < pad) = false := by rw [decide_eq_false_iff_not]; omega
  have d5 : decide ((96 : Int) < value.length) = false := by rw [decide_eq_false_iff_not]; omega
  have d6 : decide ((96 : Int) < (value.length : Int) + pad) = false := by rw [decide_eq_false_iff_not]; omega
  have d7 : decide ((page : Int) ≤ 1024) = true := by rw [decide_eq_true_eq]; omega
  by_cases hp : page = 0
  · have hs := h5 hp
    subst hp hs
    clear h5
    go_enter Tryz.func35, Tryz.ntmps35
    go_wp2_with fail
    go_ret
    exact ⟨rfl, (Below.refl _ _).alloc (Nat.le_refl _) _⟩
  · have d8 : decide ((page : Int) = 0) = false := by rw [decide_eq_false_iff_not]; omega
    have d9 : ((page : Int) != 0) = true := by simp; omega
    clear h5
    go_enter Tryz.func35, Tryz.ntmps35
    go_wp2_with fail
    go_ret
    exact ⟨rfl, (Below.refl _ _).alloc (Nat.le_refl _) _⟩
theorem key_may (k : Sp.Bs) (h1 : 1 ≤ k.length) (h2 : k.length ≤ 48) (w : World) : Calls Tryz.prog 102 #[str k] w fun e w' => e = .returned (.bool true) ∧ w' = w := by
  have d1 : decide ((1 : Int) ≤ k.length) = true := by rw [decide_eq_true_eq]; omega
  have d2 : decide ((k.length : Int) ≤ 48) = true := by rw [decide_eq_true_eq]; omega
  go_enter Tryz.func102, Tryz.ntmps102
  go_wp2_with fail
  go_ret
  exact ⟨rfl, rfl⟩
set_option maxRecDepth 100000 in
set_option maxHeartbeats 1000000 in
theorem row_may (r : Sp.Rw) (h : r.may) (w : World) : Calls Tryz.prog 73 #[rwV r] w fun e w' => e = .returned (.bool true) ∧ Below w.heap.size w w' := by
  obtain ⟨key, mark, tx, page, slot, value, pad⟩ := r
  obtain ⟨h1, h2, h3, h4, h5⟩ := h
  dsimp only at h1 h2 h3 h4 h5
  have HK := Lib.hid fun (W : World) => key_may key h1 h2 W
  have d3 : decide ((0 : Int) ≤ pad) = true := by rw [decide_eq_true_eq]; omega
  have d4 : decide ((pad : Int) ≤ 96) = true := by rw [decide_eq_true_eq]; omega
  have d6 : decide ((value.length : Int) ≤ 96 - (pad : Int)) = true := by rw [decide_eq_true_eq]; omega
  have d7 : decide ((page : Int) ≤ 1024) = true := by rw [decide_eq_true_eq]; omega
  by_cases hp : page = 0
  · have hs := h5 hp
    subst hp hs
    clear h5
    go_enter Tryz.func73, Tryz.ntmps73
    go_wp2_with fail
    refine (HK.out _).mono ?_
    rintro e w1 ⟨rfl, hw⟩
    subst w1
    go_wp2_with fail
    go_ret
    exact ⟨rfl, (Below.refl _ _).alloc (Nat.le_refl _) _⟩
  · have d8 : decide ((0 : Int) < page) = true := by rw [decide_eq_true_eq]; omega
    clear h5
    go_enter Tryz.func73, Tryz.ntmps73
    go_wp2_with fail
    refine (HK.out _).mono ?_
    rintro e w1 ⟨rfl, hw⟩
    subst w1
    go_wp2_with fail
    go_ret
    exact ⟨rfl, (Below.refl _ _).alloc (Nat.le_refl _) _⟩
end Go.Proofs.YtafopojibpifoaaGreat
