/- A pool of the law packages in memory, whose disk has given pages 1 to 6; what its calls do to the plain list. -/
import Derived.Test.YtphkggcdfkcidaaGreatMAH
import Derived.Test.YtphkggcdfkcidaaGreatMAD
import Derived.Test.YtphkggcdfkcidaaGreatMAG

namespace Go.Proofs.YtphkggcdfkcidaaGreat
open Go.RowKit

/-- Pages 1 to 6 are pages. -/
def PgOk (pg : Nat → Sp.Pg) : Prop := ∀ q, 1 ≤ q → q ≤ 6 → (pg q).wf ∧ (pg q).may ∧ (pg q).id = q
/-- A disk that has them. -/
structure LawDkP (pg : Nat → Sp.Pg) (dk : Sp.Dk) : Prop where
  len : dk.sure.length = 72
  loose : dk.loose = []
  fuse : dk.fuse = -1
  page : ∀ q, 1 ≤ q → q ≤ 6 → Sp.pageAt dk.sure (44 + q * 4) = pgBytes (pg q)
  zero : Sp.pageAt dk.sure (44 + 0 * 4) = Sp.zeros 512
def Sp.Pl.ofP (pg : Nat → Sp.Pg) (p : Sp.Pl) : Prop := ∀ it ∈ p.items, it.dirty = false ∧ it.page = pg it.page.id ∧ 1 ≤ it.page.id ∧ it.page.id ≤ 6

/-- A pool (block gp), its disk (block gd); the blocks of K are none of theirs. -/
def LgAt (pg : Nat → Sp.Pg) (K : Foot) (w : World) (gd gl gp n : Nat) (L : List (Nat × Nat)) : Prop :=
  PgOk pg ∧ ∃ (p : Sp.Pl) (D F : Foot) (dk : Sp.Dk), IsDk D w gd dk ∧ LawDkP pg dk ∧ IsPl F w gp gd gl 8 44 p ∧ p.n = n ∧ p.ofP pg ∧ p.abs = L ∧ (∀ b, D b → ¬ F b) ∧ (∀ b, D b ∨ F b → ¬ K b) ∧ (∀ b, K b → b < w.heap.size)

theorem lg_make {pg : Nat → Sp.Pg} {K : Foot} {w w' : World} {gd gl gp n : Nat} {p' : Sp.Pl} {D F F' : Foot} {dk : Sp.Dk} (hok : PgOk pg) (hd : IsDk D w gd dk) (hlk : LawDkP pg dk) (hpl : IsPl F' w' gp gd gl 8 44 p') (hn : p'.n = n) (hfr : p'.ofP pg) (hDF : ∀ b, D b → ¬ F b) (hK : ∀ b, D b ∨ F b → ¬ K b)
    (hb : ∀ b, K b → b < w.heap.size) (ht : Turns F F' w w') : LgAt pg K w' gd gl gp n p'.abs := by
  have hin := hd.in_
  refine ⟨hok, p', D, F', dk, hd.keep (fun b hD => ht.block b (hin b hD) (hDF b hD)), hlk, hpl, hn, hfr, rfl, fun b hD hF => ?_, fun b h hk => ?_, fun b h => Nat.lt_of_lt_of_le (hb b h) ht.size⟩
  · rcases ht.foot b hF with h | h
    · exact hDF b hD h
    · have := hin b hD; omega
  · rcases h with h | h
    · exact hK b (.inl h) hk
    · rcases ht.foot b h with h | h
      · exact hK b (.inr h) hk
      · have := hb b hk; omega

theorem lg_len {pg : Nat → Sp.Pg} {K : Foot} {w : World} {gd gl gp n : Nat} {L : List (Nat × Nat)} (h : LgAt pg K w gd gl gp n L) : L.length ≤ n ∧ (L.map (·.1)).Nodup ∧ ∀ x ∈ L, 1 ≤ x.1 ∧ x.1 ≤ 6 := by
  obtain ⟨hok, p, D, F, dk, hd, hlk, hpl, rfl, hfr, rfl, hDF, hb0⟩ := h
  have hl := hpl.wf.len
  have hids := hpl.wf.ids
  refine ⟨by simp [Sp.Pl.abs]; omega, ?_, fun x hx => ?_⟩
  · have e1 : p.abs.map (·.1) = p.items.map (·.page.id) := by simp [Sp.Pl.abs, Function.comp]
    rw [e1]; exact hids
  · obtain ⟨it, hit, rfl⟩ := List.mem_map.1 hx
    exact ⟨(hfr it hit).2.2.1, (hfr it hit).2.2.2⟩

/-- The blocks made meanwhile are none of theirs. -/
theorem LgAt.more {pg : Nat → Sp.Pg} {K K' : Foot} {w w' : World} {gd gl gp n : Nat} {L : List (Nat × Nat)} (h : LgAt pg K w gd gl gp n L) (hb : Below w.heap.size w w') (hK : ∀ b, K' b → K b ∨ (w.heap.size ≤ b ∧ b < w'.heap.size)) : LgAt pg K' w' gd gl gp n L := by
  obtain ⟨hok, p, D, F, dk, hd, hlk, hpl, hn, hfr, hL, hDF, hb0, hKl⟩ := h
  have hin := hd.in_
  have hlt := hpl.lt
  refine ⟨hok, p, D, F, dk, hd.below hb, hlk, hpl.below hb, hn, hfr, hL, hDF, fun b h hk => ?_, fun b hk => ?_⟩
  · rcases hK b hk with h' | h'
    · exact hb0 b h h'
    · rcases h with h | h
      · have := hin b h; omega
      · have := hlt b h; omega
  · rcases hK b hk with h' | h'
    · exact Nat.lt_of_lt_of_le (hKl b h') hb.size
    · exact h'.2
theorem LgAt.below {pg : Nat → Sp.Pg} {K : Foot} {w w' : World} {gd gl gp n : Nat} {L : List (Nat × Nat)} (h : LgAt pg K w gd gl gp n L) (hb : Below w.heap.size w w') : LgAt pg K w' gd gl gp n L := h.more hb (fun _ h => .inl h)
theorem LgAt.lt {pg : Nat → Sp.Pg} {K : Foot} {w : World} {gd gl gp n : Nat} {L : List (Nat × Nat)} (h : LgAt pg K w gd gl gp n L) : ∀ b, K b → b < w.heap.size := by
  obtain ⟨_, p, D, F, dk, _, _, _, _, _, _, _, _, h⟩ := h
  exact h

/-- What Pin answers, and leaves. -/
def PinLg (pg : Nat → Sp.Pg) (K : Foot) (w : World) (gd gl gp n : Nat) (L : List (Nat × Nat)) (k : Nat) (e : Ending) (w' : World) : Prop :=
  Kept K w w' ∧ ((Sp.aPin n L k = none ∧ e = .returned (.tuple #[zeroPgV, .int .i64 4]) ∧ LgAt pg K w' gd gl gp n L) ∨
    ∃ L' A c, Sp.aPin n L k = some L' ∧ e = .returned (.tuple #[pgV (pg k) A c, .int .i64 0]) ∧ OkAddr A ∧ RowsAt (fun b => w.heap.size ≤ b) w' A (pg k).rows ∧ LgAt pg K w' gd gl gp n L')

theorem lg_pin {pg : Nat → Sp.Pg} {K : Foot} {w : World} {gd gl gp n : Nat} {L : List (Nat × Nat)} (h : LgAt pg K w gd gl gp n L) {k : Nat} (h1 : 1 ≤ k) (h6 : k ≤ 6) (hs : ∀ x ∈ L, x.2 < 1000000) :
    Calls Tryz.prog 23 #[ptr gp, u32v k] w (PinLg pg K w gd gl gp n L k) := by
  obtain ⟨hok, p, D, F, dk, hd, hlk, hpl, rfl, hfr, rfl, hDF, hb0, hKl⟩ := h
  have hwf := hpl.wf
  cases hf : p.find k with
  | some it =>
    obtain ⟨hit, hk⟩ := Sp.Pl.find_mem hf
    have hpg : it.page = pg k := by rw [← hk]; exact (hfr it hit).2.1
    have hsm := hs (it.page.id, it.pins) (List.mem_map.2 ⟨it, hit, rfl⟩)
    have hsm : it.pins < 1000000 := hsm
    refine (pool_pin_in' hpl (by omega) hf (by omega)).mono ?_
    rintro e w' ⟨F', A, c, rfl, hA, hR, h', ht⟩
    rw [hpg] at hR ⊢
    have hfr' : ((p.pinUp k).last k).ofP pg := fun y hy => by
      have hy' := (Sp.Pl.last_perm (p.pinUp k) k).mem_iff.1 hy
      obtain ⟨x, hx, rfl⟩ := Sp.Pl.upd_mem hy'
      split <;> exact hfr x hx
    refine ⟨Kept.of_turns ht (fun b hk => ⟨hKl b hk, fun hF => hb0 b (.inr hF) hk⟩), .inr ⟨Sp.aUp p.abs k, A, c, ?_, rfl, hA, hR, ?_⟩⟩
    · unfold Sp.aPin
      rw [if_pos (Sp.aHas_iff.2 (by rw [hf]; rfl))]
    · rw [← Sp.abs_last]
      exact lg_make hok hd hlk h' rfl hfr' hDF hb0 hKl ht
  | none =>
    have hno : Sp.aHas p.abs k = false := by
      cases ha : Sp.aHas p.abs k with
      | false => rfl
      | true => rw [Sp.aHas_iff, hf] at ha; cases ha
    have hid : (pg k).id = k := (hok k h1 h6).2.2
    have hlen : p.abs.length = p.items.length := by simp [Sp.Pl.abs]
    have hwl := hwf.len
    have HC := pool_pin_out' (x := pg k) hpl (fun it hit => (hfr it hit).1) ⟨(hok k h1 h6).1, (hok k h1 h6).2.1⟩ (by rw [hid]; exact hf) hd (by rw [hlk.fuse]; decide) hlk.loose (by rw [hlk.len, hid]; omega) (by rw [hid]; exact hlk.page k h1 h6)
    rw [hid] at HC
    refine HC.mono ?_
    rintro e w' (⟨rfl, hfree, hall, h', ht⟩ | ⟨F', A, c, p', i, rest, rfl, hA, hR, hfree, hnone, h', ht, hp'⟩)
    · refine ⟨Kept.of_turns ht (fun b hk => ⟨hKl b hk, fun hF => hb0 b (.inr hF) hk⟩), .inl ⟨?_, rfl, lg_make hok hd hlk h' rfl hfr hDF hb0 hKl ht⟩⟩
      unfold Sp.aPin
      rw [hfree, List.length_nil] at hwl
      rw [hno, if_neg (by simp), if_neg (by omega), Sp.aDrop_none _ (fun y hy => by
        obtain ⟨it, hit, rfl⟩ := List.mem_map.1 hy
        exact hall it hit)]
      rfl
    · have hsub : ∀ y ∈ p'.items, y ∈ p.items := by
        rcases hp' with rfl | ⟨_, pre, it, post, _, _, _, rfl⟩
        · exact fun y hy => hy
        · exact fun y hy => (List.mem_filter.1 hy).1
      have hfr' : ((p'.bring (pg k) i rest).pinUp k).ofP pg := fun y hy => by
        obtain ⟨x, hx, rfl⟩ := Sp.Pl.upd_mem hy
        have hx' : x.dirty = false ∧ x.page = pg x.page.id ∧ 1 ≤ x.page.id ∧ x.page.id ≤ 6 := by
          rcases List.mem_append.1 hx with hx | hx
          · exact hfr x (hsub x hx)
          · rw [List.mem_singleton.1 hx]
            exact ⟨rfl, by rw [hid], by rw [hid]; exact h1, by rw [hid]; exact h6⟩
        split <;> exact hx'
      have hpn : p'.n = p.n := by
        rcases hp' with rfl | ⟨_, pre, it, post, _, _, _, rfl⟩ <;> rfl
      have habs : Sp.aPin p.n p.abs k = some (p'.abs ++ [(k, 1)]) := by
        unfold Sp.aPin
        rw [hno, if_neg (by simp)]
        rcases hp' with rfl | ⟨hf0, pre, it, post, hsp, hpre, hp0, rfl⟩
        · rw [hfree, List.length_cons] at hwl
          rw [if_pos (by omega)]
        · rw [hf0, List.length_nil] at hwl
          rw [if_neg (by omega), Sp.abs_drop hwf hsp]
          unfold Sp.Pl.abs
          rw [hsp, List.map_append, List.map_cons, Sp.aDrop_split _ _ _ (fun y hy => by
            obtain ⟨z, hz, rfl⟩ := List.mem_map.1 hy
            exact hpre z hz) hp0, List.map_append]
          rfl
      refine ⟨Kept.of_turns ht (fun b hk => ⟨hKl b hk, fun hF => hb0 b (.inr hF) hk⟩), .inr ⟨_, A, c, habs, rfl, hA, hR, ?_⟩⟩
      have ha := Sp.abs_bring (x := pg k) (i := i) (rest := rest) (by rw [hid]; exact hnone)
      rw [hid] at ha
      rw [← ha]
      exact lg_make hok hd hlk h' hpn hfr' hDF hb0 hKl ht

theorem lg_unpin {pg : Nat → Sp.Pg} {K : Foot} {w : World} {gd gl gp n : Nat} {L : List (Nat × Nat)} (h : LgAt pg K w gd gl gp n L) {k m : Nat} (hk : k < 4294967296) (hm : (k, m) ∈ L) (h0 : 1 ≤ m) :
    Calls Tryz.prog 24 #[ptr gp, u32v k] w fun e w' => e = .returned (.int .i64 0) ∧ Kept K w w' ∧ LgAt pg K w' gd gl gp n (Sp.aUnpin L k) := by
  obtain ⟨hok, p, D, F, dk, hd, hlk, hpl, rfl, hfr, rfl, hDF, hb0, hKl⟩ := h
  obtain ⟨it, hit, e⟩ := List.mem_map.1 hm
  injection e with e1 e2
  have hf := Sp.Pl.find_of hpl.wf hit
  rw [e1] at hf
  refine (pool_unpin hpl hk hf (by omega)).mono ?_
  rintro e w' ⟨rfl, h', ht⟩
  refine ⟨rfl, Kept.of_turns ht (fun b hk => ⟨hKl b hk, fun hF => hb0 b (.inr hF) hk⟩), ?_⟩
  rw [← Sp.abs_unpin]
  refine lg_make hok hd hlk h' rfl (fun y hy => ?_) hDF hb0 hKl ht
  obtain ⟨x, hx, rfl⟩ := Sp.Pl.upd_mem hy
  split <;> exact hfr x hx

theorem lg_pins {pg : Nat → Sp.Pg} {K : Foot} {w : World} {gd gl gp n : Nat} {L : List (Nat × Nat)} (h : LgAt pg K w gd gl gp n L) {k m : Nat} (hk : k < 4294967296) (hm : (k, m) ∈ L) :
    Calls Tryz.prog 17 #[ptr gp, u32v k] w fun e w' => e = .returned (.int .i64 m) ∧ w' = w := by
  obtain ⟨hok, p, D, F, dk, hd, hlk, hpl, rfl, hfr, rfl, hDF, hb0, hKl⟩ := h
  obtain ⟨it, hit, e⟩ := List.mem_map.1 hm
  injection e with e1 e2
  have hf := Sp.Pl.find_of hpl.wf hit
  rw [e1] at hf
  rw [← e2]
  exact pool_pins_in hpl hk hf

theorem lg_pages {pg : Nat → Sp.Pg} {K : Foot} {w : World} {gd gl gp n : Nat} {L : List (Nat × Nat)} (h : LgAt pg K w gd gl gp n L) (h12 : n ≤ 12) :
    Calls Tryz.prog 34 #[ptr gp] w fun e w' => ∃ v, e = .returned v ∧ w'.ownsRow w.heap.size 23 1 v L.length ((Sp.sorted (L.map (·.1))).map u32v) ∧ Below w.heap.size w w' ∧ LgAt pg K w' gd gl gp n L := by
  have h' := h
  obtain ⟨hok, p, D, F, dk, hd, hlk, hpl, rfl, hfr, rfl, hDF, hb0, hKl⟩ := h
  refine (pool_pages hpl h12).mono ?_
  rintro e w' ⟨v, rfl, hrow, hb⟩
  have e1 : p.abs.map (·.1) = p.items.map (·.page.id) := by simp [Sp.Pl.abs, Function.comp]
  have e2 : p.abs.length = p.items.length := by simp [Sp.Pl.abs]
  rw [e1, e2]
  exact ⟨v, rfl, hrow, hb, h'.below hb⟩

end Go.Proofs.YtphkggcdfkcidaaGreat

/- The walk of the law package pentimentolaw26: Laid: a pool whose disk has six given pages. -/
namespace Go.Proofs.YtphkggcdfkcidaaGreat
open Go.RowKit Go.Conc

/-- A disk on which the pages below k are the given ones. -/
structure LaidDk (pg : Nat → Sp.Pg) (k : Nat) (dk : Sp.Dk) : Prop where
  len : dk.sure.length = 72
  loose : dk.loose = []
  fuse : dk.fuse = -1
  page : ∀ q, 1 ≤ q → q ≤ 6 → q < k → Sp.pageAt dk.sure (44 + q * 4) = pgBytes (pg q)
  zero : Sp.pageAt dk.sure (44 + 0 * 4) = Sp.zeros 512
/-- Six pages in memory. -/
def PgsAt (w : World) (b o : Nat) (pg : Nat → Sp.Pg) : Prop :=
  ∀ q, q < 6 → ∃ A c, RowsAt (fun b => b < w.heap.size) w A (pg (q + 1)).rows ∧ w.cell? ⟨b, o + q * 6, none⟩ = some (.int .u8 (pg (q + 1)).kind) ∧ w.cell? ⟨b, o + q * 6 + 1, none⟩ = some (.int .u8 (pg (q + 1)).level) ∧ w.cell? ⟨b, o + q * 6 + 2, none⟩ = some (.int .u32 (pg (q + 1)).id) ∧
    w.cell? ⟨b, o + q * 6 + 3, none⟩ = some (.int .u64 (pg (q + 1)).lsn) ∧ w.cell? ⟨b, o + q * 6 + 4, none⟩ = some (.int .u32 (pg (q + 1)).next) ∧ w.cell? ⟨b, o + q * 6 + 5, none⟩ = some (.slice A (pg (q + 1)).rows.length c)
/-- What holds while they are laid. -/
def LaidAt (w : World) (pg : Nat → Sp.Pg) (gP gr gd gl gp : Nat) (k : Nat) (wr : World) : Prop :=
  ∃ (D F : Foot) (dk : Sp.Dk), IsDk D wr gd dk ∧ LaidDk pg (k + 1) dk ∧ IsPl F wr gp gd gl 8 44 ⟨2, [], List.range 2⟩ ∧ (∀ b, D b → ¬ F b) ∧ (∀ b, D b ∨ F b → w.heap.size ≤ b ∧ b ≠ gP) ∧
    Blk wr gP 46 #[ptr gd, ptr gl, ptr gp, ptr gr] ∧ Below w.heap.size w wr
theorem lv_below {W w1 : World} {B : Nat} (hb : Below B W w1) {b o : Nat} {v : Value} (hl : b < B) (h : W.cell? ⟨b, o, none⟩ = some v) : w1.cell? ⟨b, o, none⟩ = some v := (hb.cell (p := ⟨b, o, none⟩) hl).trans h

set_option maxRecDepth 100000 in
set_option maxHeartbeats 4000000 in
theorem law_laid (pg : Nat → Sp.Pg) (hok : PgOk pg) (b o cap : Nat) (w : World) (hbl : b < w.heap.size) (h : PgsAt w b o pg) :
    Calls Tryz.prog 10 #[.slice (some ⟨b, o, none⟩) 6 cap] w fun e w' => ∃ gP gr gd gl gp, e = .returned (ptr gP) ∧ Blk w' gP 46 #[ptr gd, ptr gl, ptr gp, ptr gr] ∧ Below w.heap.size w w' ∧ LgAt pg (fun b => b < w.heap.size ∨ b = gP) w' gd gl gp 2 [] := by
  have HBG := Lib.hid (law_begun 2 (by omega) (by omega) w)
  have H := Lib.hid h
  have HOK := Lib.hid hok
  clear h hok
  go_enter Tryz.func10, Tryz.ntmps10
  go_wp2_with fail
  refine HBG.out.mono ?_
  rintro e w1 ⟨gP, gr, gd, gl, gp, v, xs, D, F, dk, rfl, hP, _, _, _, hd, hlk, hpl, hDF, hb0, hb⟩
  have hLA : LaidAt w pg gP gr gd gl gp 0 w1 := ⟨D, F, dk, hd, ⟨hlk.len, hlk.loose, hlk.fuse, fun q h1 _ h2 => by omega, hlk.zero⟩, hpl, hDF, fun b h => ⟨(hb0 b h).1, (hb0 b h).2.1⟩, hP, hb⟩
  have HL := Lib.hid hLA
  clear HBG hP hd hlk hpl hDF hb0 hb hLA
  go_wp2_with fail
  go_loopw [4] (fun i wr => ∃ k : Nat, k ≤ 6 ∧ i = .int .i64 k ∧ LaidAt w pg gP gr gd gl gp k wr) (fun i _ => 6 - (intOf i).toNat)
  case atStart => exact ⟨0, by omega, rfl, HL.out⟩
  case round =>
    obtain ⟨k, hk, rfl, hL⟩ := hrel
    clear HL
    obtain ⟨D, F, dk, hd, hlk, hpl, hDF, hb0, hP, hbr⟩ := hL
    by_cases hlt : k < 6
    · obtain ⟨A, c, hR, c0, c1, c2, c3, c4, c5⟩ := H.out k hlt
      obtain ⟨ok1, ok2, ok3⟩ := HOK.out (k + 1) (by omega) (by omega)
      have hsz := hbr.size
      have hRr : RowsAt (fun b => b < w.heap.size) wr A (pg (k + 1)).rows := Reads.keep hR hsz (fun b hb => hbr.block b hb)
      have HE := Lib.hid (page_encode (c := c) hRr ok1 ok2)
      have x0 := lv_below hbr hbl c0
      have x1 := lv_below hbr hbl c1
      have x2 := lv_below hbr hbl c2
      have x3 := lv_below hbr hbl c3
      have x4 := lv_below hbr hbl c4
      have x5 := lv_below hbr hbl c5
      have hgPl := hP.lt
      have HD := Lib.hid hd
      have HLK := Lib.hid hlk
      have HPL := Lib.hid hpl
      have HDF := Lib.hid hDF
      have HB0 := Lib.hid hb0
      have HP := Lib.hid hP
      have HOK2 := Lib.hid ok2
      have HID := Lib.hid ok3
      clear hd hlk hpl hDF hb0 hP hR hRr c0 c1 c2 c3 c4 c5 ok1 ok2 ok3
      go_wp2_with fail
      refine HE.out.mono ?_
      rintro e w2 ⟨rfl, hb2⟩
      have HD2 := Lib.hid (HD.out.below hb2)
      have HPL2 := Lib.hid (HPL.out.below hb2)
      have HP2 := Lib.hid (HP.out.below hb2 HP.out.lt)
      have hbr2 := hbr.trans (hb2.mono hsz)
      have y2 := lv_below hb2 (Nat.lt_of_lt_of_le hbl hsz) x2
      rw [HID.out] at y2
      clear x0 x1 x2 x3 x4 x5 HE HD HPL HP hb2 hbr hsz hgPl
      go_wp2_with fail
      have hS0 : Hid (w2.drew.cell? ⟨gP, 0, none⟩ = some (ptr gd) ∧ w2.drew.cell? ⟨b, o + k * 6 + 2, none⟩ = some (.int .u32 (k + 1 : Nat))) := Lib.hid ⟨HP2.out.cell 0, y2⟩
      refine R_begin (fun W => W.cell? ⟨gP, 0, none⟩ = some (ptr gd) ∧ W.cell? ⟨b, o + k * 6 + 2, none⟩ = some (.int .u32 (k + 1 : Nat))) (fun _ => false) rfl ?_
      refine R_take 0 24 (v := ?_) rfl rfl (by rfl) (by kernel_rfl) (fun _ _ _ h => h) hS0.out ?_ ?_
      rotate_left
      · intro w hSw; (try dsimp only at hSw); go_simp; (try with_reducible rfl)
      simp only [List.setIfInBounds_toArray, List.set_cons_zero, List.set_cons_succ]
      refine R_take 1 25 (v := ?_) rfl rfl (by rfl) (by kernel_rfl) (fun _ _ _ h => h) hS0.out ?_ ?_
      rotate_left
      · intro w hSw; (try dsimp only at hSw); go_simp; (try with_reducible rfl)
      simp only [List.setIfInBounds_toArray, List.set_cons_zero, List.set_cons_succ]
      refine R_take 2 26 (v := ?_) rfl rfl (by rfl) (by kernel_rfl) (fun _ _ _ h => h) hS0.out ?_ ?_
      rotate_left
      · intro w hSw; (try dsimp only at hSw); go_simp; (try with_reducible rfl)
      simp only [List.setIfInBounds_toArray, List.set_cons_zero, List.set_cons_succ]
      refine R_take 3 27 (v := ?_) rfl rfl (by rfl) (by kernel_rfl) (fun _ _ _ h => h) hS0.out ?_ ?_
      rotate_left
      · intro w hSw; (try dsimp only at hSw); go_simp; (try with_reducible rfl)
      simp only [List.setIfInBounds_toArray, List.set_cons_zero, List.set_cons_succ]
      refine R_take 4 28 (v := ?_) rfl rfl (by rfl) (by kernel_rfl) (fun _ _ _ h => h) hS0.out ?_ ?_
      rotate_left
      · intro w hSw; (try dsimp only at hSw); go_simp; (try with_reducible rfl)
      simp only [List.setIfInBounds_toArray, List.set_cons_zero, List.set_cons_succ]
      refine R_take 5 29 (v := ?_) rfl rfl (by rfl) (by kernel_rfl) (fun _ _ _ h => h) hS0.out ?_ ?_
      rotate_left
      · intro w hSw; (try dsimp only at hSw); go_simp; (try with_reducible rfl)
      simp only [List.setIfInBounds_toArray, List.set_cons_zero, List.set_cons_succ]
      refine R_take 6 30 (v := ?_) rfl rfl (by rfl) (by kernel_rfl) (fun _ _ _ h => h) hS0.out ?_ ?_
      rotate_left
      · intro w hSw; (try dsimp only at hSw); go_simp; (try with_reducible rfl)
      simp only [List.setIfInBounds_toArray, List.set_cons_zero, List.set_cons_succ]
      refine R_take 7 31 (v := ?_) rfl rfl (by rfl) (by kernel_rfl) (fun _ _ _ h => h) hS0.out ?_ ?_
      rotate_left
      · intro w hSw; (try dsimp only at hSw); go_simp; (try with_reducible rfl)
      simp only [List.setIfInBounds_toArray, List.set_cons_zero, List.set_cons_succ]
      refine R_take 8 32 (v := ?_) rfl rfl (by rfl) (by kernel_rfl) (fun _ _ _ h => h) hS0.out ?_ ?_
      rotate_left
      · intro w hSw; (try dsimp only at hSw); go_simp; (try with_reducible rfl)
      simp only [List.setIfInBounds_toArray, List.set_cons_zero, List.set_cons_succ]
      refine R_take 9 33 (v := ?_) rfl rfl (by rfl) (by kernel_rfl) (fun _ _ _ h => h) hS0.out ?_ ?_
      rotate_left
      · intro w hSw; (try dsimp only at hSw); go_simp; (try with_reducible rfl)
      simp only [List.setIfInBounds_toArray, List.set_cons_zero, List.set_cons_succ]
      refine R_take 10 34 (v := ?_) rfl rfl (by rfl) (by kernel_rfl) (fun _ _ _ h => h) hS0.out ?_ ?_
      rotate_left
      · intro w hSw; (try dsimp only at hSw); go_simp; (try with_reducible rfl)
      simp only [List.setIfInBounds_toArray, List.set_cons_zero, List.set_cons_succ]
      refine R_take 11 35 (v := ?_) rfl rfl (by rfl) (by kernel_rfl) (fun _ _ _ h => h) hS0.out ?_ ?_
      rotate_left
      · intro w hSw; (try dsimp only at hSw); go_simp; (try with_reducible rfl)
      simp only [List.setIfInBounds_toArray, List.set_cons_zero, List.set_cons_succ]
      refine R_take 12 36 (v := ?_) rfl rfl (by rfl) (by kernel_rfl) (fun _ _ _ h => h) hS0.out ?_ ?_
      rotate_left
      · intro w hSw; (try dsimp only at hSw); go_simp; (try with_reducible rfl)
      simp only [List.setIfInBounds_toArray, List.set_cons_zero, List.set_cons_succ]
      refine R_take 13 37 (v := ?_) rfl rfl (by rfl) (by kernel_rfl) (fun _ _ _ h => h) hS0.out ?_ ?_
      rotate_left
      · intro w hSw; (try dsimp only at hSw); go_simp; (try with_reducible rfl)
      simp only [List.setIfInBounds_toArray, List.set_cons_zero, List.set_cons_succ]
      have hlen := pgBytes_length HOK2.out
      have hb3 := (Below.refl w2.drew.heap.size w2.drew).alloc (Nat.le_refl _) (.cells #[.int .u32 (k + 1 : Nat), str (pgBytes (pg (k + 1)))] 75)
      have hHm := Blk.new w2.drew 75 #[.int .u32 (k + 1 : Nat), str (pgBytes (pg (k + 1)))]
      refine R_run 14 38 (v := .slice (some ⟨w2.drew.heap.size, 0, none⟩) 1 1) (w' := w2.drew.alloc (.cells #[.int .u32 (k + 1 : Nat), str (pgBytes (pg (k + 1)))] 75)) rfl rfl (by rfl) (by kernel_rfl) ?_ ?_ ?_
      · go_simp
      · exact fun _ => ⟨(HP2.out.drew.below hb3 HP2.out.lt).cell 0, lv_below hb3 (Nat.lt_of_lt_of_le hbl hbr2.size) y2⟩
      simp only [List.setIfInBounds_toArray, List.set_cons_zero, List.set_cons_succ]
      have hd3 := (HD2.out.keep (w' := w2.drew) (fun _ _ => rfl)).below hb3
      have hpl3 := (HPL2.out.keep (w' := w2.drew) (Nat.le_refl _) (fun _ _ => rfl)).below hb3
      have hP3 := HP2.out.drew.below hb3 HP2.out.lt
      have hbr3 : Below w.heap.size w _ := hbr2.trans ((show Below w2.heap.size w2 _ from ⟨hb3.os, hb3.tape, hb3.output, hb3.size, hb3.block⟩).mono hbr2.size)
      have y3 := lv_below hb3 (Nat.lt_of_lt_of_le hbl hbr2.size) y2
      have hRd : Reads (fun b => b = w2.drew.heap.size) (w2.drew.alloc (.cells #[.int .u32 (k + 1 : Nat), str (pgBytes (pg (k + 1)))] 75)) 2 (some ⟨w2.drew.heap.size, 0, none⟩) 1 (hcs [(k + 1, pgBytes (pg (k + 1)))]) :=
        ⟨rfl, fun _ => ⟨w2.drew.heap.size, 0, rfl, rfl, hHm.lt, fun j u hu => by
          rw [Nat.zero_add]
          exact (hHm.cell j).trans (by rw [List.getElem?_toArray]; exact hu)⟩⟩
      have hins : Sp.inside dk.sure.length 8 44 (k + 1) := by rw [HLK.out.len]; unfold Sp.inside; omega
      have HTW := Lib.hid (twin_write hd3 HLK.out.fuse (by rw [HLK.out.loose]; simp) 8 44 (l := [(k + 1, pgBytes (pg (k + 1)))]) (c := 1) hRd (by simp) (by simp) (fun x hx => by
        rw [List.mem_singleton.1 hx]
        exact ⟨by show k + 1 < _; omega, hlen, hins⟩) (by simp) (by rw [HLK.out.len]; omega) (by rw [HLK.out.len]; omega))
      have hone := Sp.twin_one dk HLK.out.loose HLK.out.fuse 8 44 (k + 1) _ hlen hins
      have hgd : D gP → False := fun hh => (HB0.out gP (.inl hh)).2 rfl
      refine R_call 15 39 (w' := w2.drew.alloc (.cells #[.int .u32 (k + 1 : Nat), str (pgBytes (pg (k + 1)))] 75)) rfl rfl (by rfl) (by kernel_rfl) ?_ HTW.out ?_
      · go_simp
      rintro e w4 ⟨D4, rfl, hd4, ht4⟩
      have hDl := hd3.in_
      have hpll := hpl3.lt
      have hP4 := hP3.turns ht4 hgd
      have hbr4 : Below w.heap.size w w4 := hbr3.trans (ht4.below hbr3.size (fun b hb => (HB0.out b (.inl hb)).1))
      have hpl4 := hpl3.keep ht4.size (fun b hb => ht4.block b (hpll b hb) (fun hD => HDF.out b hD hb))
      have hlk4 : LaidDk pg (k + 1 + 1) (dk.acts (Sp.twinActs 8 44 [(k + 1, pgBytes (pg (k + 1)))])) := by
        refine ⟨hone.2.2.1.trans HLK.out.len, hone.1, hone.2.1, fun q hq1 hq6 hq2 => ?_, (hone.2.2.2.2 0 (by omega) (by omega) (by rw [HLK.out.len]; omega)).trans HLK.out.zero⟩
        by_cases e : q = k + 1
        · rw [e]; exact hone.2.2.2.1
        · rw [hone.2.2.2.2 q e (by omega) (by rw [HLK.out.len]; omega)]
          exact HLK.out.page q hq1 hq6 (by omega)
      have hLA : LaidAt w pg gP gr gd gl gp (k + 1) w4 := by
        refine ⟨D4, F, _, hd4, hlk4, hpl4, fun b hb hF => ?_, fun b hb => ?_, hP4, hbr4⟩
        · rcases ht4.foot b hb with h | h
          · exact HDF.out b h hF
          · have := hpll b hF; omega
        · rcases hb with hb | hb
          · rcases ht4.foot b hb with h | h
            · exact HB0.out b (.inl h)
            · have := hbr3.size; have := hP3.lt; exact ⟨by omega, by omega⟩
          · exact HB0.out b (.inr hb)
      have y4 : w4.cell? ⟨b, o + k * 6 + 2, none⟩ = some (.int .u32 (k + 1 : Nat)) := lv_below (ht4.below hbr3.size (fun b hb => (HB0.out b (.inl hb)).1)) hbl y3
      have hS4 : w4.cell? ⟨gP, 0, none⟩ = some (ptr gd) ∧ w4.cell? ⟨b, o + k * 6 + 2, none⟩ = some (.int .u32 (k + 1 : Nat)) := ⟨hP4.cell 0, y4⟩
      have HLA := Lib.hid hLA
      refine ⟨_, rfl, fun _ => hS4, ?_⟩
      simp only [List.setIfInBounds_toArray, List.set_cons_zero, List.set_cons_succ]
      have hS2 := Lib.hid hS4
      clear hS0 hS4 y2 y3 y4 hLA hlk4 hpl4 hP4 hd4 ht4 hone HTW hRd hins hd3 hpl3 hP3 hbr3 hDl hpll hHm hb3 hlen HD2 HPL2 HP2 hbr2 HLK HDF HB0 HOK2 HID
      refine R_take 16 40 (v := ?_) rfl rfl (by rfl) (by kernel_rfl) (fun _ _ _ h => h) hS2.out ?_ ?_
      rotate_left
      · intro w hSw; (try dsimp only at hSw); go_simp; (try with_reducible rfl)
      simp only [List.setIfInBounds_toArray, List.set_cons_zero, List.set_cons_succ]
      refine R_take 17 41 (v := ?_) rfl rfl (by rfl) (by kernel_rfl) (fun _ _ _ h => h) hS2.out ?_ ?_
      rotate_left
      · intro w hSw; (try dsimp only at hSw); go_simp; (try with_reducible rfl)
      simp only [List.setIfInBounds_toArray, List.set_cons_zero, List.set_cons_succ]
      refine R_done (by kernel_rfl) ?_ _
      rename_i K9 hK9
      refine hK9 _ _ ?_
      clear hK9 hS2
      go_wp2_with fail
      go_roundw
      case rel => exact ⟨k + 1, hlt, by go_num, HLA.out⟩
      case measure => simp [intOf]; omega
    · obtain rfl : k = 6 := by omega
      have HLG : Hid (LgAt pg (fun b => b < w.heap.size ∨ b = gP) wr gd gl gp 2 []) := Lib.hid (by
        have hs := hbr.size
        have hg := hP.lt
        refine ⟨HOK.out, _, D, F, dk, hd, ⟨hlk.len, hlk.loose, hlk.fuse, fun q h1 h2 => hlk.page q h1 h2 (by omega), hlk.zero⟩, hpl, rfl, fun it h => by simp at h, rfl, hDF, fun b h hk => ?_, fun b hk => ?_⟩
        · obtain ⟨h1, h2⟩ := hb0 b h
          rcases hk with hk | hk <;> omega
        · rcases hk with hk | hk <;> omega)
      have HP := Lib.hid hP
      clear hd hlk hpl hDF hb0 hP
      go_wp2_with fail
      go_ret
      exact ⟨gP, gr, gd, gl, gp, rfl, HP.out, hbr, HLG.out⟩
end Go.Proofs.YtphkggcdfkcidaaGreat

/- The walks of rows as bytes: package row's Encode. -/
namespace Go.Proofs.YtphkggcdfkcidaaGreat
open Go.RowKit

set_option maxRecDepth 100000 in
theorem repeat_zero (s : Sp.Bs) (w : World) : Calls Tryz.prog 113 #[str s, .int .i64 0] w fun e w' => e = .returned (str []) ∧ Below w.heap.size w w' := by
  go_enter Tryz.func113, Tryz.ntmps113
  go_wp2_with fail
  go_ret
  exact ⟨rfl, Below.refl _ _⟩
theorem rw_cells0 {r : Sp.Rw} (hp : r.pad = 0) {g : Nat} {t : TypeId} {W : World} (h : Blk W g t (rwCs r).toArray) :
    W.cell? ⟨g, 0, none⟩ = some (str r.key) ∧ W.cell? ⟨g, 2, none⟩ = some (.int .u64 r.tx) ∧ W.cell? ⟨g, 3, none⟩ = some (.int .u32 r.page) ∧ W.cell? ⟨g, 4, none⟩ = some (.int .u16 r.slot) ∧ W.cell? ⟨g, 5, none⟩ = some (str r.value) ∧ W.cell? ⟨g, 6, none⟩ = some (.int .i64 0) :=
  ⟨h.cell 0, h.cell 2, h.cell 3, h.cell 4, h.cell 5, (h.cell 6).trans (by simp [hp])⟩

set_option maxRecDepth 100000 in
set_option maxHeartbeats 4000000 in
theorem row_encode (r : Sp.Rw) (h : r.may) (hwf : r.wf) (hpad : r.pad = 0) (w : World) : Calls Tryz.prog 125 #[rwV r] w fun e w' => e = .returned (.tuple #[str r.bytes, .int .i64 0]) ∧ Below w.heap.size w w' := by
  have HM := Lib.hid fun (W : World) => row_may r h W
  obtain ⟨h1, h2, h3, h4, h5⟩ := h
  have hkl : r.key.length < 256 := by omega
  have hvl : r.value.length < 256 := by omega
  have hsl := hwf.2
  have htx := hwf.1
  have cc1 : ¬ 9223372036854775807 < 16 + r.key.length := by omega
  have cc2 : ¬ 9223372036854775807 < 16 + r.key.length + 1 := by omega
  have cc3 : ¬ 9223372036854775807 < 16 + r.key.length + 1 + r.value.length := by omega
  have wr1 : IntKind.u64.wrap (r.page : Int) = r.page := by rw [IntKind.wrap_u64]; omega
  have wr2 : IntKind.u64.wrap (r.slot : Int) = r.slot := by rw [IntKind.wrap_u64]; omega
  have wr3 : IntKind.u64.wrap (r.key.length : Int) = r.key.length := by rw [IntKind.wrap_u64]; omega
  have wr4 : IntKind.u64.wrap (r.value.length : Int) = r.value.length := by rw [IntKind.wrap_u64]; omega
  have HP0 := Lib.hid hpad
  clear hpad
  go_enter Tryz.func125, Tryz.ntmps125
  go_wp2_with fail
  refine (HM.out _).mono ?_
  rintro e w1 ⟨rfl, hb1⟩
  have hB0 := (Blk.new w 37 (rwCs r).toArray)
  have hB1 := hB0.below hb1 hB0.lt
  have hb0 : Below w.heap.size w w1 := ((Below.refl w.heap.size w).alloc (Nat.le_refl _) (.cells (rwCs r).toArray 37)).trans (hb1.mono (by simp))
  obtain ⟨g, hg⟩ : ∃ g, g = w.heap.size := ⟨_, rfl⟩
  rw [← hg] at hB1 ⊢
  have HB := Lib.hid hB1
  have m0 := hB1.cell 1
  simp only [List.getElem?_toArray, List.getElem?_cons_succ, List.getElem?_cons_zero] at m0
  clear hg hB0 hB1 HM hb1
  cases hm : r.mark with
  | false =>
    rw [hm] at m0
    have HMN : Hid (r.markN = 0) := Lib.hid (by unfold Sp.Rw.markN; rw [hm]; rfl)
    clear hm
    go_wp2_with fail
    have hS0 := Lib.hid (rw_cells0 HP0.out HB.out.drew)
    clear m0
    refine R_begin (fun W => W.cell? ⟨g, 0, none⟩ = some (str r.key) ∧ W.cell? ⟨g, 2, none⟩ = some (.int .u64 r.tx) ∧ W.cell? ⟨g, 3, none⟩ = some (.int .u32 r.page) ∧ W.cell? ⟨g, 4, none⟩ = some (.int .u16 r.slot) ∧ W.cell? ⟨g, 5, none⟩ = some (str r.value) ∧ W.cell? ⟨g, 6, none⟩ = some (.int .i64 0)) (fun _ => false) rfl ?_
    refine R_take 0 10 (v := ?_) rfl rfl (by rfl) (by kernel_rfl) (fun _ _ _ h => h) hS0.out ?_ ?_
    rotate_left
    · intro w hSw; (try dsimp only at hSw); go_simp; (try with_reducible rfl)
    simp only [List.setIfInBounds_toArray, List.set_cons_zero, List.set_cons_succ]
    refine R_take 1 11 (v := ?_) rfl rfl (by rfl) (by kernel_rfl) (fun _ _ _ h => h) hS0.out ?_ ?_
    rotate_left
    · intro w hSw; (try dsimp only at hSw); go_simp; (try with_reducible rfl)
    simp only [List.setIfInBounds_toArray, List.set_cons_zero, List.set_cons_succ]
    refine R_take 2 12 (v := ?_) rfl rfl (by rfl) (by kernel_rfl) (fun _ _ _ h => h) hS0.out ?_ ?_
    rotate_left
    · intro w hSw; (try dsimp only at hSw); go_simp; (try with_reducible rfl)
    simp only [List.setIfInBounds_toArray, List.set_cons_zero, List.set_cons_succ]
    refine R_take 5 15 (v := ?_) rfl rfl (by rfl) (by kernel_rfl) (fun _ _ _ h => h) hS0.out ?_ ?_
    rotate_left
    · intro w hSw; (try dsimp only at hSw); go_simp; (try with_reducible rfl)
    simp only [List.setIfInBounds_toArray, List.set_cons_zero, List.set_cons_succ]
    refine R_take 6 16 (v := ?_) rfl rfl (by rfl) (by kernel_rfl) (fun _ _ _ h => h) hS0.out ?_ ?_
    rotate_left
    · intro w hSw; (try dsimp only at hSw); go_simp; (try with_reducible rfl)
    simp only [List.setIfInBounds_toArray, List.set_cons_zero, List.set_cons_succ]
    refine R_take 7 17 (v := ?_) rfl rfl (by rfl) (by kernel_rfl) (fun _ _ _ h => h) hS0.out ?_ ?_
    rotate_left
    · intro w hSw; (try dsimp only at hSw); go_simp; (try with_reducible rfl)
    simp only [List.setIfInBounds_toArray, List.set_cons_zero, List.set_cons_succ]
    refine R_take 8 18 (v := ?_) rfl rfl (by rfl) (by kernel_rfl) (fun _ _ _ h => h) hS0.out ?_ ?_
    rotate_left
    · intro w hSw; (try dsimp only at hSw); go_simp; (try with_reducible rfl)
    simp only [List.setIfInBounds_toArray, List.set_cons_zero, List.set_cons_succ]
    refine R_take 11 21 (v := ?_) rfl rfl (by rfl) (by kernel_rfl) (fun _ _ _ h => h) hS0.out ?_ ?_
    rotate_left
    · intro w hSw; (try dsimp only at hSw); go_simp; (try with_reducible rfl)
    simp only [List.setIfInBounds_toArray, List.set_cons_zero, List.set_cons_succ]
    refine R_take 12 22 (v := ?_) rfl rfl (by rfl) (by kernel_rfl) (fun _ _ _ h => h) hS0.out ?_ ?_
    rotate_left
    · intro w hSw; (try dsimp only at hSw); go_simp; (try with_reducible rfl)
    simp only [List.setIfInBounds_toArray, List.set_cons_zero, List.set_cons_succ]
    refine R_take 13 23 (v := ?_) rfl rfl (by rfl) (by kernel_rfl) (fun _ _ _ h => h) hS0.out ?_ ?_
    rotate_left
    · intro w hSw; (try dsimp only at hSw); go_simp; (try with_reducible rfl)
    simp only [List.setIfInBounds_toArray, List.set_cons_zero, List.set_cons_succ]
    refine R_take 14 24 (v := ?_) rfl rfl (by rfl) (by kernel_rfl) (fun _ _ _ h => h) hS0.out ?_ ?_
    rotate_left
    · intro w hSw; (try dsimp only at hSw); go_simp; (try with_reducible rfl)
    simp only [List.setIfInBounds_toArray, List.set_cons_zero, List.set_cons_succ]
    refine R_take 17 27 (v := ?_) rfl rfl (by rfl) (by kernel_rfl) (fun _ _ _ h => h) hS0.out ?_ ?_
    rotate_left
    · intro w hSw; (try dsimp only at hSw); go_simp; (try with_reducible rfl)
    simp only [List.setIfInBounds_toArray, List.set_cons_zero, List.set_cons_succ]
    refine R_take 18 28 (v := ?_) rfl rfl (by rfl) (by kernel_rfl) (fun _ _ _ h => h) hS0.out ?_ ?_
    rotate_left
    · intro w hSw; (try dsimp only at hSw); go_simp; (try with_reducible rfl)
    simp only [List.setIfInBounds_toArray, List.set_cons_zero, List.set_cons_succ]
    refine R_take 19 29 (v := ?_) rfl rfl (by rfl) (by kernel_rfl) (fun _ _ _ h => h) hS0.out ?_ ?_
    rotate_left
    · intro w hSw; (try dsimp only at hSw); go_simp; (try with_reducible rfl)
    simp only [List.setIfInBounds_toArray, List.set_cons_zero, List.set_cons_succ]
    refine R_take 20 30 (v := ?_) rfl rfl (by rfl) (by kernel_rfl) (fun _ _ _ h => h) hS0.out ?_ ?_
    rotate_left
    · intro w hSw; (try dsimp only at hSw); go_simp; (try with_reducible rfl)
    simp only [List.setIfInBounds_toArray, List.set_cons_zero, List.set_cons_succ]
    refine R_take 23 33 (v := ?_) rfl rfl (by rfl) (by kernel_rfl) (fun _ _ _ h => h) hS0.out ?_ ?_
    rotate_left
    · intro w hSw; (try dsimp only at hSw); go_simp; (try with_reducible rfl)
    simp only [List.setIfInBounds_toArray, List.set_cons_zero, List.set_cons_succ]
    refine R_take 24 34 (v := ?_) rfl rfl (by rfl) (by kernel_rfl) (fun _ _ _ h => h) hS0.out ?_ ?_
    rotate_left
    · intro w hSw; (try dsimp only at hSw); go_simp; (try with_reducible rfl)
    simp only [List.setIfInBounds_toArray, List.set_cons_zero, List.set_cons_succ]
    refine R_take 26 36 (v := ?_) rfl rfl (by rfl) (by kernel_rfl) (fun _ _ _ h => h) hS0.out ?_ ?_
    rotate_left
    · intro w hSw; (try dsimp only at hSw); go_simp; (try with_reducible rfl)
    simp only [List.setIfInBounds_toArray, List.set_cons_zero, List.set_cons_succ]
    refine R_take 27 37 (v := ?_) rfl rfl (by rfl) (by kernel_rfl) (fun _ _ _ h => h) hS0.out ?_ ?_
    rotate_left
    · intro w hSw; (try dsimp only at hSw); go_simp; (try with_reducible rfl)
    simp only [List.setIfInBounds_toArray, List.set_cons_zero, List.set_cons_succ]
    refine R_take 28 38 (v := ?_) rfl rfl (by rfl) (by kernel_rfl) (fun _ _ _ h => h) hS0.out ?_ ?_
    rotate_left
    · intro w hSw; (try dsimp only at hSw); go_simp; (try with_reducible rfl)
    simp only [List.setIfInBounds_toArray, List.set_cons_zero, List.set_cons_succ]
    refine R_take 29 39 (v := ?_) rfl rfl (by rfl) (by kernel_rfl) (fun _ _ _ h => h) hS0.out ?_ ?_
    rotate_left
    · intro w hSw; (try dsimp only at hSw); go_simp; (try with_reducible rfl)
    simp only [List.setIfInBounds_toArray, List.set_cons_zero, List.set_cons_succ]
    refine R_take 32 42 (v := ?_) rfl rfl (by rfl) (by kernel_rfl) (fun _ _ _ h => h) hS0.out ?_ ?_
    rotate_left
    · intro w hSw; (try dsimp only at hSw); go_simp; (try with_reducible rfl)
    simp only [List.setIfInBounds_toArray, List.set_cons_zero, List.set_cons_succ]
    refine R_take 33 43 (v := ?_) rfl rfl (by rfl) (by kernel_rfl) (fun _ _ _ h => h) hS0.out ?_ ?_
    rotate_left
    · intro w hSw; (try dsimp only at hSw); go_simp; (try with_reducible rfl)
    simp only [List.setIfInBounds_toArray, List.set_cons_zero, List.set_cons_succ]
    refine R_take 35 45 (v := ?_) rfl rfl (by rfl) (by kernel_rfl) (fun _ _ _ h => h) hS0.out ?_ ?_
    rotate_left
    · intro w hSw; (try dsimp only at hSw); go_simp; (try with_reducible rfl)
    simp only [List.setIfInBounds_toArray, List.set_cons_zero, List.set_cons_succ]
    refine R_take 36 46 (v := ?_) rfl rfl (by rfl) (by kernel_rfl) (fun _ _ _ h => h) hS0.out ?_ ?_
    rotate_left
    · intro w hSw; (try dsimp only at hSw); go_simp; (try with_reducible rfl)
    simp only [List.setIfInBounds_toArray, List.set_cons_zero, List.set_cons_succ]
    refine R_call 3 13 (w' := w1.drew) rfl rfl (by rfl) (by kernel_rfl) ?_ (row_number r.tx 8 w1.drew (by omega) (by omega) hwf.1 hwf.1) ?_
    · go_simp
    rintro e v1 ⟨rfl, hbv1⟩
    have hBv1 : Below w1.heap.size w1 v1 := ⟨hbv1.os, hbv1.tape, hbv1.output, hbv1.size, hbv1.block⟩
    have hsv1 := rw_cells0 HP0.out (HB.out.below hBv1 HB.out.lt)
    refine ⟨_, rfl, fun _ => hsv1, ?_⟩
    simp only [List.setIfInBounds_toArray, List.set_cons_zero, List.set_cons_succ]
    have hS1 := Lib.hid hsv1
    clear hsv1 hbv1
    refine R_take 4 14 (v := ?_) rfl rfl (by rfl) (by kernel_rfl) (fun _ _ _ h => h) hS1.out ?_ ?_
    rotate_left
    · intro w hSw; (try dsimp only at hSw); go_simp; (try with_reducible rfl)
    simp only [List.setIfInBounds_toArray, List.set_cons_zero, List.set_cons_succ]
    refine R_call 9 19 (w' := v1) rfl rfl (by rfl) (by kernel_rfl) ?_ (row_number r.page 4 v1 (by omega) (by omega) (by omega) (by omega)) ?_
    · go_simp
    rintro e v2 ⟨rfl, hbv2⟩
    have hBv2 : Below w1.heap.size w1 v2 := hBv1.trans (hbv2.mono hBv1.size)
    have hsv2 := rw_cells0 HP0.out (HB.out.below hBv2 HB.out.lt)
    refine ⟨_, rfl, fun _ => hsv2, ?_⟩
    simp only [List.setIfInBounds_toArray, List.set_cons_zero, List.set_cons_succ]
    have hS2 := Lib.hid hsv2
    clear hsv2 hbv2 hBv1
    refine R_take 10 20 (v := ?_) rfl rfl (by rfl) (by kernel_rfl) (fun _ _ _ h => h) hS2.out ?_ ?_
    rotate_left
    · intro w hSw; (try dsimp only at hSw); go_simp; (try with_reducible rfl)
    simp only [List.setIfInBounds_toArray, List.set_cons_zero, List.set_cons_succ]
    refine R_call 15 25 (w' := v2) rfl rfl (by rfl) (by kernel_rfl) ?_ (row_number r.slot 2 v2 (by omega) (by omega) hwf.2 (by omega)) ?_
    · go_simp
    rintro e v3 ⟨rfl, hbv3⟩
    have hBv3 : Below w1.heap.size w1 v3 := hBv2.trans (hbv3.mono hBv2.size)
    have hsv3 := rw_cells0 HP0.out (HB.out.below hBv3 HB.out.lt)
    refine ⟨_, rfl, fun _ => hsv3, ?_⟩
    simp only [List.setIfInBounds_toArray, List.set_cons_zero, List.set_cons_succ]
    have hS3 := Lib.hid hsv3
    clear hsv3 hbv3 hBv2
    refine R_take 16 26 (v := ?_) rfl rfl (by rfl) (by kernel_rfl) (fun _ _ _ h => h) hS3.out ?_ ?_
    rotate_left
    · intro w hSw; (try dsimp only at hSw); go_simp; (try with_reducible rfl)
    simp only [List.setIfInBounds_toArray, List.set_cons_zero, List.set_cons_succ]
    refine R_call 21 31 (w' := v3) rfl rfl (by rfl) (by kernel_rfl) ?_ (row_number r.key.length 1 v3 (by omega) (by omega) (by omega) (by omega)) ?_
    · go_simp
    rintro e v4 ⟨rfl, hbv4⟩
    have hBv4 : Below w1.heap.size w1 v4 := hBv3.trans (hbv4.mono hBv3.size)
    have hsv4 := rw_cells0 HP0.out (HB.out.below hBv4 HB.out.lt)
    refine ⟨_, rfl, fun _ => hsv4, ?_⟩
    simp only [List.setIfInBounds_toArray, List.set_cons_zero, List.set_cons_succ]
    have hS4 := Lib.hid hsv4
    clear hsv4 hbv4 hBv3
    refine R_take 22 32 (v := ?_) rfl rfl (by rfl) (by kernel_rfl) (fun _ _ _ h => h) hS4.out ?_ ?_
    rotate_left
    · intro w hSw; (try dsimp only at hSw); go_simp; (try with_reducible rfl)
    simp only [List.setIfInBounds_toArray, List.set_cons_zero, List.set_cons_succ]
    refine R_take 25 35 (v := ?_) rfl rfl (by rfl) (by kernel_rfl) (fun _ _ _ h => h) hS4.out ?_ ?_
    rotate_left
    · intro w hSw; (try dsimp only at hSw); go_simp; (try with_reducible rfl)
    simp only [List.setIfInBounds_toArray, List.set_cons_zero, List.set_cons_succ]
    refine R_call 30 40 (w' := v4) rfl rfl (by rfl) (by kernel_rfl) ?_ (row_number r.value.length 1 v4 (by omega) (by omega) (by omega) (by omega)) ?_
    · go_simp
    rintro e v5 ⟨rfl, hbv5⟩
    have hBv5 : Below w1.heap.size w1 v5 := hBv4.trans (hbv5.mono hBv4.size)
    have hsv5 := rw_cells0 HP0.out (HB.out.below hBv5 HB.out.lt)
    refine ⟨_, rfl, fun _ => hsv5, ?_⟩
    simp only [List.setIfInBounds_toArray, List.set_cons_zero, List.set_cons_succ]
    have hS5 := Lib.hid hsv5
    clear hsv5 hbv5 hBv4
    refine R_take 31 41 (v := ?_) rfl rfl (by rfl) (by kernel_rfl) (fun _ _ _ h => h) hS5.out ?_ ?_
    rotate_left
    · intro w hSw; (try dsimp only at hSw); go_simp; (try with_reducible rfl)
    simp only [List.setIfInBounds_toArray, List.set_cons_zero, List.set_cons_succ]
    refine R_take 34 44 (v := ?_) rfl rfl (by rfl) (by kernel_rfl) (fun _ _ _ h => h) hS5.out ?_ ?_
    rotate_left
    · intro w hSw; (try dsimp only at hSw); go_simp; (try with_reducible rfl)
    simp only [List.setIfInBounds_toArray, List.set_cons_zero, List.set_cons_succ]
    refine R_call 37 47 (w' := v5) rfl rfl (by rfl) (by kernel_rfl) ?_ (repeat_zero [0] v5) ?_
    · go_simp
    rintro e v6 ⟨rfl, hbv6⟩
    have hBv6 : Below w1.heap.size w1 v6 := hBv5.trans (hbv6.mono hBv5.size)
    have hsv6 := rw_cells0 HP0.out (HB.out.below hBv6 HB.out.lt)
    refine ⟨_, rfl, fun _ => hsv6, ?_⟩
    simp only [List.setIfInBounds_toArray, List.set_cons_zero, List.set_cons_succ]
    have hS6 := Lib.hid hsv6
    clear hsv6 hbv6 hBv5
    refine R_take 38 48 (v := ?_) rfl rfl (by rfl) (by kernel_rfl) (fun _ _ _ h => h) hS6.out ?_ ?_
    rotate_left
    · intro w hSw; (try dsimp only at hSw); go_simp; (try with_reducible rfl)
    simp only [List.setIfInBounds_toArray, List.set_cons_zero, List.set_cons_succ]
    refine R_take 39 2 (v := ?_) rfl rfl (by rfl) (by kernel_rfl) (fun _ _ _ h => h) hS6.out ?_ ?_
    rotate_left
    · intro w hSw; (try dsimp only at hSw); go_simp; (try with_reducible rfl)
    simp only [List.setIfInBounds_toArray, List.set_cons_zero, List.set_cons_succ]
    refine R_take 40 3 (v := ?_) rfl rfl (by rfl) (by kernel_rfl) (fun _ _ _ h => h) hS6.out ?_ ?_
    rotate_left
    · intro w hSw; (try dsimp only at hSw); go_simp; (try with_reducible rfl)
    simp only [List.setIfInBounds_toArray, List.set_cons_zero, List.set_cons_succ]
    refine R_done (by kernel_rfl) ?_ _
    rename_i K9 hK9
    refine hK9 _ _ ?_
    clear hK9
    have hb2 := hb0.trans (hBv6.mono hb0.size)
    go_wp2_with fail
    go_ret2
    refine ⟨?_, hb2⟩
    have e : r.bytes = Sp.be 1 0 ++ Sp.be 8 r.tx ++ Sp.be 4 r.page ++ Sp.be 2 r.slot ++ Sp.be 1 r.key.length ++ r.key ++ Sp.be 1 r.value.length ++ r.value ++ [] := by
      unfold Sp.Rw.bytes Sp.Rw.head
      rw [HMN.out, HP0.out]; rfl
    rw [e]
    rfl
  | true =>
    rw [hm] at m0
    have HMN : Hid (r.markN = 1) := Lib.hid (by unfold Sp.Rw.markN; rw [hm]; rfl)
    clear hm
    go_wp2_with fail
    have hS0 := Lib.hid (rw_cells0 HP0.out HB.out.drew)
    clear m0
    refine R_begin (fun W => W.cell? ⟨g, 0, none⟩ = some (str r.key) ∧ W.cell? ⟨g, 2, none⟩ = some (.int .u64 r.tx) ∧ W.cell? ⟨g, 3, none⟩ = some (.int .u32 r.page) ∧ W.cell? ⟨g, 4, none⟩ = some (.int .u16 r.slot) ∧ W.cell? ⟨g, 5, none⟩ = some (str r.value) ∧ W.cell? ⟨g, 6, none⟩ = some (.int .i64 0)) (fun _ => false) rfl ?_
    refine R_take 0 10 (v := ?_) rfl rfl (by rfl) (by kernel_rfl) (fun _ _ _ h => h) hS0.out ?_ ?_
    rotate_left
    · intro w hSw; (try dsimp only at hSw); go_simp; (try with_reducible rfl)
    simp only [List.setIfInBounds_toArray, List.set_cons_zero, List.set_cons_succ]
    refine R_take 1 11 (v := ?_) rfl rfl (by rfl) (by kernel_rfl) (fun _ _ _ h => h) hS0.out ?_ ?_
    rotate_left
    · intro w hSw; (try dsimp only at hSw); go_simp; (try with_reducible rfl)
    simp only [List.setIfInBounds_toArray, List.set_cons_zero, List.set_cons_succ]
    refine R_take 2 12 (v := ?_) rfl rfl (by rfl) (by kernel_rfl) (fun _ _ _ h => h) hS0.out ?_ ?_
    rotate_left
    · intro w hSw; (try dsimp only at hSw); go_simp; (try with_reducible rfl)
    simp only [List.setIfInBounds_toArray, List.set_cons_zero, List.set_cons_succ]
    refine R_take 5 15 (v := ?_) rfl rfl (by rfl) (by kernel_rfl) (fun _ _ _ h => h) hS0.out ?_ ?_
    rotate_left
    · intro w hSw; (try dsimp only at hSw); go_simp; (try with_reducible rfl)
    simp only [List.setIfInBounds_toArray, List.set_cons_zero, List.set_cons_succ]
    refine R_take 6 16 (v := ?_) rfl rfl (by rfl) (by kernel_rfl) (fun _ _ _ h => h) hS0.out ?_ ?_
    rotate_left
    · intro w hSw; (try dsimp only at hSw); go_simp; (try with_reducible rfl)
    simp only [List.setIfInBounds_toArray, List.set_cons_zero, List.set_cons_succ]
    refine R_take 7 17 (v := ?_) rfl rfl (by rfl) (by kernel_rfl) (fun _ _ _ h => h) hS0.out ?_ ?_
    rotate_left
    · intro w hSw; (try dsimp only at hSw); go_simp; (try with_reducible rfl)
    simp only [List.setIfInBounds_toArray, List.set_cons_zero, List.set_cons_succ]
    refine R_take 8 18 (v := ?_) rfl rfl (by rfl) (by kernel_rfl) (fun _ _ _ h => h) hS0.out ?_ ?_
    rotate_left
    · intro w hSw; (try dsimp only at hSw); go_simp; (try with_reducible rfl)
    simp only [List.setIfInBounds_toArray, List.set_cons_zero, List.set_cons_succ]
    refine R_take 11 21 (v := ?_) rfl rfl (by rfl) (by kernel_rfl) (fun _ _ _ h => h) hS0.out ?_ ?_
    rotate_left
    · intro w hSw; (try dsimp only at hSw); go_simp; (try with_reducible rfl)
    simp only [List.setIfInBounds_toArray, List.set_cons_zero, List.set_cons_succ]
    refine R_take 12 22 (v := ?_) rfl rfl (by rfl) (by kernel_rfl) (fun _ _ _ h => h) hS0.out ?_ ?_
    rotate_left
    · intro w hSw; (try dsimp only at hSw); go_simp; (try with_reducible rfl)
    simp only [List.setIfInBounds_toArray, List.set_cons_zero, List.set_cons_succ]
    refine R_take 13 23 (v := ?_) rfl rfl (by rfl) (by kernel_rfl) (fun _ _ _ h => h) hS0.out ?_ ?_
    rotate_left
    · intro w hSw; (try dsimp only at hSw); go_simp; (try with_reducible rfl)
    simp only [List.setIfInBounds_toArray, List.set_cons_zero, List.set_cons_succ]
    refine R_take 14 24 (v := ?_) rfl rfl (by rfl) (by kernel_rfl) (fun _ _ _ h => h) hS0.out ?_ ?_
    rotate_left
    · intro w hSw; (try dsimp only at hSw); go_simp; (try with_reducible rfl)
    simp only [List.setIfInBounds_toArray, List.set_cons_zero, List.set_cons_succ]
    refine R_take 17 27 (v := ?_) rfl rfl (by rfl) (by kernel_rfl) (fun _ _ _ h => h) hS0.out ?_ ?_
    rotate_left
    · intro w hSw; (try dsimp only at hSw); go_simp; (try with_reducible rfl)
    simp only [List.setIfInBounds_toArray, List.set_cons_zero, List.set_cons_succ]
    refine R_take 18 28 (v := ?_) rfl rfl (by rfl) (by kernel_rfl) (fun _ _ _ h => h) hS0.out ?_ ?_
    rotate_left
    · intro w hSw; (try dsimp only at hSw); go_simp; (try with_reducible rfl)
    simp only [List.setIfInBounds_toArray, List.set_cons_zero, List.set_cons_succ]
    refine R_take 19 29 (v := ?_) rfl rfl (by rfl) (by kernel_rfl) (fun _ _ _ h => h) hS0.out ?_ ?_
    rotate_left
    · intro w hSw; (try dsimp only at hSw); go_simp; (try with_reducible rfl)
    simp only [List.setIfInBounds_toArray, List.set_cons_zero, List.set_cons_succ]
    refine R_take 20 30 (v := ?_) rfl rfl (by rfl) (by kernel_rfl) (fun _ _ _ h => h) hS0.out ?_ ?_
    rotate_left
    · intro w hSw; (try dsimp only at hSw); go_simp; (try with_reducible rfl)
    simp only [List.setIfInBounds_toArray, List.set_cons_zero, List.set_cons_succ]
    refine R_take 23 33 (v := ?_) rfl rfl (by rfl) (by kernel_rfl) (fun _ _ _ h => h) hS0.out ?_ ?_
    rotate_left
    · intro w hSw; (try dsimp only at hSw); go_simp; (try with_reducible rfl)
    simp only [List.setIfInBounds_toArray, List.set_cons_zero, List.set_cons_succ]
    refine R_take 24 34 (v := ?_) rfl rfl (by rfl) (by kernel_rfl) (fun _ _ _ h => h) hS0.out ?_ ?_
    rotate_left
    · intro w hSw; (try dsimp only at hSw); go_simp; (try with_reducible rfl)
    simp only [List.setIfInBounds_toArray, List.set_cons_zero, List.set_cons_succ]
    refine R_take 26 36 (v := ?_) rfl rfl (by rfl) (by kernel_rfl) (fun _ _ _ h => h) hS0.out ?_ ?_
    rotate_left
    · intro w hSw; (try dsimp only at hSw); go_simp; (try with_reducible rfl)
    simp only [List.setIfInBounds_toArray, List.set_cons_zero, List.set_cons_succ]
    refine R_take 27 37 (v := ?_) rfl rfl (by rfl) (by kernel_rfl) (fun _ _ _ h => h) hS0.out ?_ ?_
    rotate_left
    · intro w hSw; (try dsimp only at hSw); go_simp; (try with_reducible rfl)
    simp only [List.setIfInBounds_toArray, List.set_cons_zero, List.set_cons_succ]
    refine R_take 28 38 (v := ?_) rfl rfl (by rfl) (by kernel_rfl) (fun _ _ _ h => h) hS0.out ?_ ?_
    rotate_left
    · intro w hSw; (try dsimp only at hSw); go_simp; (try with_reducible rfl)
    simp only [List.setIfInBounds_toArray, List.set_cons_zero, List.set_cons_succ]
    refine R_take 29 39 (v := ?_) rfl rfl (by rfl) (by kernel_rfl) (fun _ _ _ h => h) hS0.out ?_ ?_
    rotate_left
    · intro w hSw; (try dsimp only at hSw); go_simp; (try with_reducible rfl)
    simp only [List.setIfInBounds_toArray, List.set_cons_zero, List.set_cons_succ]
    refine R_take 32 42 (v := ?_) rfl rfl (by rfl) (by kernel_rfl) (fun _ _ _ h => h) hS0.out ?_ ?_
    rotate_left
    · intro w hSw; (try dsimp only at hSw); go_simp; (try with_reducible rfl)
    simp only [List.setIfInBounds_toArray, List.set_cons_zero, List.set_cons_succ]
    refine R_take 33 43 (v := ?_) rfl rfl (by rfl) (by kernel_rfl) (fun _ _ _ h => h) hS0.out ?_ ?_
    rotate_left
    · intro w hSw; (try dsimp only at hSw); go_simp; (try with_reducible rfl)
    simp only [List.setIfInBounds_toArray, List.set_cons_zero, List.set_cons_succ]
    refine R_take 35 45 (v := ?_) rfl rfl (by rfl) (by kernel_rfl) (fun _ _ _ h => h) hS0.out ?_ ?_
    rotate_left
    · intro w hSw; (try dsimp only at hSw); go_simp; (try with_reducible rfl)
    simp only [List.setIfInBounds_toArray, List.set_cons_zero, List.set_cons_succ]
    refine R_take 36 46 (v := ?_) rfl rfl (by rfl) (by kernel_rfl) (fun _ _ _ h => h) hS0.out ?_ ?_
    rotate_left
    · intro w hSw; (try dsimp only at hSw); go_simp; (try with_reducible rfl)
    simp only [List.setIfInBounds_toArray, List.set_cons_zero, List.set_cons_succ]
    refine R_call 3 13 (w' := w1.drew) rfl rfl (by rfl) (by kernel_rfl) ?_ (row_number r.tx 8 w1.drew (by omega) (by omega) hwf.1 hwf.1) ?_
    · go_simp
    rintro e v1 ⟨rfl, hbv1⟩
    have hBv1 : Below w1.heap.size w1 v1 := ⟨hbv1.os, hbv1.tape, hbv1.output, hbv1.size, hbv1.block⟩
    have hsv1 := rw_cells0 HP0.out (HB.out.below hBv1 HB.out.lt)
    refine ⟨_, rfl, fun _ => hsv1, ?_⟩
    simp only [List.setIfInBounds_toArray, List.set_cons_zero, List.set_cons_succ]
    have hS1 := Lib.hid hsv1
    clear hsv1 hbv1
    refine R_take 4 14 (v := ?_) rfl rfl (by rfl) (by kernel_rfl) (fun _ _ _ h => h) hS1.out ?_ ?_
    rotate_left
    · intro w hSw; (try dsimp only at hSw); go_simp; (try with_reducible rfl)
    simp only [List.setIfInBounds_toArray, List.set_cons_zero, List.set_cons_succ]
    refine R_call 9 19 (w' := v1) rfl rfl (by rfl) (by kernel_rfl) ?_ (row_number r.page 4 v1 (by omega) (by omega) (by omega) (by omega)) ?_
    · go_simp
    rintro e v2 ⟨rfl, hbv2⟩
    have hBv2 : Below w1.heap.size w1 v2 := hBv1.trans (hbv2.mono hBv1.size)
    have hsv2 := rw_cells0 HP0.out (HB.out.below hBv2 HB.out.lt)
    refine ⟨_, rfl, fun _ => hsv2, ?_⟩
    simp only [List.setIfInBounds_toArray, List.set_cons_zero, List.set_cons_succ]
    have hS2 := Lib.hid hsv2
    clear hsv2 hbv2 hBv1
    refine R_take 10 20 (v := ?_) rfl rfl (by rfl) (by kernel_rfl) (fun _ _ _ h => h) hS2.out ?_ ?_
    rotate_left
    · intro w hSw; (try dsimp only at hSw); go_simp; (try with_reducible rfl)
    simp only [List.setIfInBounds_toArray, List.set_cons_zero, List.set_cons_succ]
    refine R_call 15 25 (w' := v2) rfl rfl (by rfl) (by kernel_rfl) ?_ (row_number r.slot 2 v2 (by omega) (by omega) hwf.2 (by omega)) ?_
    · go_simp
    rintro e v3 ⟨rfl, hbv3⟩
    have hBv3 : Below w1.heap.size w1 v3 := hBv2.trans (hbv3.mono hBv2.size)
    have hsv3 := rw_cells0 HP0.out (HB.out.below hBv3 HB.out.lt)
    refine ⟨_, rfl, fun _ => hsv3, ?_⟩
    simp only [List.setIfInBounds_toArray, List.set_cons_zero, List.set_cons_succ]
    have hS3 := Lib.hid hsv3
    clear hsv3 hbv3 hBv2
    refine R_take 16 26 (v := ?_) rfl rfl (by rfl) (by kernel_rfl) (fun _ _ _ h => h) hS3.out ?_ ?_
    rotate_left
    · intro w hSw; (try dsimp only at hSw); go_simp; (try with_reducible rfl)
    simp only [List.setIfInBounds_toArray, List.set_cons_zero, List.set_cons_succ]
    refine R_call 21 31 (w' := v3) rfl rfl (by rfl) (by kernel_rfl) ?_ (row_number r.key.length 1 v3 (by omega) (by omega) (by omega) (by omega)) ?_
    · go_simp
    rintro e v4 ⟨rfl, hbv4⟩
    have hBv4 : Below w1.heap.size w1 v4 := hBv3.trans (hbv4.mono hBv3.size)
    have hsv4 := rw_cells0 HP0.out (HB.out.below hBv4 HB.out.lt)
    refine ⟨_, rfl, fun _ => hsv4, ?_⟩
    simp only [List.setIfInBounds_toArray, List.set_cons_zero, List.set_cons_succ]
    have hS4 := Lib.hid hsv4
    clear hsv4 hbv4 hBv3
    refine R_take 22 32 (v := ?_) rfl rfl (by rfl) (by kernel_rfl) (fun _ _ _ h => h) hS4.out ?_ ?_
    rotate_left
    · intro w hSw; (try dsimp only at hSw); go_simp; (try with_reducible rfl)
    simp only [List.setIfInBounds_toArray, List.set_cons_zero, List.set_cons_succ]
    refine R_take 25 35 (v := ?_) rfl rfl (by rfl) (by kernel_rfl) (fun _ _ _ h => h) hS4.out ?_ ?_
    rotate_left
    · intro w hSw; (try dsimp only at hSw); go_simp; (try with_reducible rfl)
    simp only [List.setIfInBounds_toArray, List.set_cons_zero, List.set_cons_succ]
    refine R_call 30 40 (w' := v4) rfl rfl (by rfl) (by kernel_rfl) ?_ (row_number r.value.length 1 v4 (by omega) (by omega) (by omega) (by omega)) ?_
    · go_simp
    rintro e v5 ⟨rfl, hbv5⟩
    have hBv5 : Below w1.heap.size w1 v5 := hBv4.trans (hbv5.mono hBv4.size)
    have hsv5 := rw_cells0 HP0.out (HB.out.below hBv5 HB.out.lt)
    refine ⟨_, rfl, fun _ => hsv5, ?_⟩
    simp only [List.setIfInBounds_toArray, List.set_cons_zero, List.set_cons_succ]
    have hS5 := Lib.hid hsv5
    clear hsv5 hbv5 hBv4
    refine R_take 31 41 (v := ?_) rfl rfl (by rfl) (by kernel_rfl) (fun _ _ _ h => h) hS5.out ?_ ?_
    rotate_left
    · intro w hSw; (try dsimp only at hSw); go_simp; (try with_reducible rfl)
    simp only [List.setIfInBounds_toArray, List.set_cons_zero, List.set_cons_succ]
    refine R_take 34 44 (v := ?_) rfl rfl (by rfl) (by kernel_rfl) (fun _ _ _ h => h) hS5.out ?_ ?_
    rotate_left
    · intro w hSw; (try dsimp only at hSw); go_simp; (try with_reducible rfl)
    simp only [List.setIfInBounds_toArray, List.set_cons_zero, List.set_cons_succ]
    refine R_call 37 47 (w' := v5) rfl rfl (by rfl) (by kernel_rfl) ?_ (repeat_zero [0] v5) ?_
    · go_simp
    rintro e v6 ⟨rfl, hbv6⟩
    have hBv6 : Below w1.heap.size w1 v6 := hBv5.trans (hbv6.mono hBv5.size)
    have hsv6 := rw_cells0 HP0.out (HB.out.below hBv6 HB.out.lt)
    refine ⟨_, rfl, fun _ => hsv6, ?_⟩
    simp only [List.setIfInBounds_toArray, List.set_cons_zero, List.set_cons_succ]
    have hS6 := Lib.hid hsv6
    clear hsv6 hbv6 hBv5
    refine R_take 38 48 (v := ?_) rfl rfl (by rfl) (by kernel_rfl) (fun _ _ _ h => h) hS6.out ?_ ?_
    rotate_left
    · intro w hSw; (try dsimp only at hSw); go_simp; (try with_reducible rfl)
    simp only [List.setIfInBounds_toArray, List.set_cons_zero, List.set_cons_succ]
    refine R_take 39 2 (v := ?_) rfl rfl (by rfl) (by kernel_rfl) (fun _ _ _ h => h) hS6.out ?_ ?_
    rotate_left
    · intro w hSw; (try dsimp only at hSw); go_simp; (try with_reducible rfl)
    simp only [List.setIfInBounds_toArray, List.set_cons_zero, List.set_cons_succ]
    refine R_take 40 3 (v := ?_) rfl rfl (by rfl) (by kernel_rfl) (fun _ _ _ h => h) hS6.out ?_ ?_
    rotate_left
    · intro w hSw; (try dsimp only at hSw); go_simp; (try with_reducible rfl)
    simp only [List.setIfInBounds_toArray, List.set_cons_zero, List.set_cons_succ]
    refine R_done (by kernel_rfl) ?_ _
    rename_i K9 hK9
    refine hK9 _ _ ?_
    clear hK9
    have hb2 := hb0.trans (hBv6.mono hb0.size)
    go_wp2_with fail
    go_ret2
    refine ⟨?_, hb2⟩
    have e : r.bytes = Sp.be 1 1 ++ Sp.be 8 r.tx ++ Sp.be 4 r.page ++ Sp.be 2 r.slot ++ Sp.be 1 r.key.length ++ r.key ++ Sp.be 1 r.value.length ++ r.value ++ [] := by
      unfold Sp.Rw.bytes Sp.Rw.head
      rw [HMN.out, HP0.out]; rfl
    rw [e]
    rfl
end Go.Proofs.YtphkggcdfkcidaaGreat

/- The walks of package row: num and text of a reading. -/
namespace Go.Proofs.YtphkggcdfkcidaaGreat
open Go.RowKit

theorem rd_cells {W : World} {g a : Nat} {l : Sp.Bs} {t : TypeId} {v : Value} (h : Blk W g t #[str l, .int .i64 a, v]) : W.cell? ⟨g, 0, none⟩ = some (str l) ∧ W.cell? ⟨g, 1, none⟩ = some (.int .i64 a) := ⟨h.cell 0, h.cell 1⟩
theorem word_cutB (l : Sp.Bs) (a n : Nat) (w : World) (h : a + n ≤ l.length) (hl : l.length ≤ 1000000000) :
    Calls Tryz.prog 91 #[str l, .int .i64 a, .int .i64 n] w fun e w' => e = .returned (.tuple #[str ((l.drop a).take n), .bool true]) ∧ Below w.heap.size w w' := by
  refine (word_cut l a n w h hl).mono ?_
  rintro e w' ⟨rfl, rfl⟩
  exact ⟨rfl, Below.refl _ _⟩

set_option maxRecDepth 100000 in
set_option maxHeartbeats 2000000 in
theorem rd_num (l : Sp.Bs) (g a n : Nat) (w : World) (h : a + n ≤ l.length) (h1 : 1 ≤ n) (h8 : n ≤ 8) (hl : l.length ≤ 1000000000) (hB : Blk w g 208 #[str l, .int .i64 a, .bool true]) :
    Calls Tryz.prog 124 #[ptr g, .int .i64 n] w fun e w' => e = .returned (.int .u64 (Sp.num ((l.drop a).take n))) ∧ Blk w' g 208 #[str l, .int .i64 (a + n : Nat), .bool true] ∧ Turns (only g) (only g) w w' := by
  have HB := Lib.hid hB
  clear hB
  go_enter Tryz.func124, Tryz.ntmps124
  go_wp2_with fail
  have hS0 : Hid (w.drew.cell? ⟨g, 0, none⟩ = some (str l) ∧ w.drew.cell? ⟨g, 1, none⟩ = some (.int .i64 a)) := Lib.hid ⟨HB.out.cell 0, HB.out.cell 1⟩
  refine R_begin (fun W => W.cell? ⟨g, 0, none⟩ = some (str l) ∧ W.cell? ⟨g, 1, none⟩ = some (.int .i64 a)) (fun _ => false) rfl ?_
  refine R_take 0 8 (v := ?_) rfl rfl (by rfl) (by kernel_rfl) (fun _ _ _ h => h) hS0.out ?_ ?_
  rotate_left
  · intro w hSw; (try dsimp only at hSw); go_simp; (try with_reducible rfl)
  simp only [List.setIfInBounds_toArray, List.set_cons_zero, List.set_cons_succ]
  refine R_take 1 9 (v := ?_) rfl rfl (by rfl) (by kernel_rfl) (fun _ _ _ h => h) hS0.out ?_ ?_
  rotate_left
  · intro w hSw; (try dsimp only at hSw); go_simp; (try with_reducible rfl)
  simp only [List.setIfInBounds_toArray, List.set_cons_zero, List.set_cons_succ]
  refine R_take 2 10 (v := ?_) rfl rfl (by rfl) (by kernel_rfl) (fun _ _ _ h => h) hS0.out ?_ ?_
  rotate_left
  · intro w hSw; (try dsimp only at hSw); go_simp; (try with_reducible rfl)
  simp only [List.setIfInBounds_toArray, List.set_cons_zero, List.set_cons_succ]
  refine R_take 3 11 (v := ?_) rfl rfl (by rfl) (by kernel_rfl) (fun _ _ _ h => h) hS0.out ?_ ?_
  rotate_left
  · intro w hSw; (try dsimp only at hSw); go_simp; (try with_reducible rfl)
  simp only [List.setIfInBounds_toArray, List.set_cons_zero, List.set_cons_succ]
  refine R_take 4 12 (v := ?_) rfl rfl (by rfl) (by kernel_rfl) (fun _ _ _ h => h) hS0.out ?_ ?_
  rotate_left
  · intro w hSw; (try dsimp only at hSw); go_simp; (try with_reducible rfl)
  simp only [List.setIfInBounds_toArray, List.set_cons_zero, List.set_cons_succ]
  refine R_take 5 13 (v := ?_) rfl rfl (by rfl) (by kernel_rfl) (fun _ _ _ h => h) hS0.out ?_ ?_
  rotate_left
  · intro w hSw; (try dsimp only at hSw); go_simp; (try with_reducible rfl)
  simp only [List.setIfInBounds_toArray, List.set_cons_zero, List.set_cons_succ]
  refine R_take 6 14 (v := ?_) rfl rfl (by rfl) (by kernel_rfl) (fun _ _ _ h => h) hS0.out ?_ ?_
  rotate_left
  · intro w hSw; (try dsimp only at hSw); go_simp; (try with_reducible rfl)
  simp only [List.setIfInBounds_toArray, List.set_cons_zero, List.set_cons_succ]
  refine R_take 7 15 (v := ?_) rfl rfl (by rfl) (by kernel_rfl) (fun _ _ _ h => h) hS0.out ?_ ?_
  rotate_left
  · intro w hSw; (try dsimp only at hSw); go_simp; (try with_reducible rfl)
  simp only [List.setIfInBounds_toArray, List.set_cons_zero, List.set_cons_succ]
  refine R_take 8 16 (v := ?_) rfl rfl (by rfl) (by kernel_rfl) (fun _ _ _ h => h) hS0.out ?_ ?_
  rotate_left
  · intro w hSw; (try dsimp only at hSw); go_simp; (try with_reducible rfl)
  simp only [List.setIfInBounds_toArray, List.set_cons_zero, List.set_cons_succ]
  refine R_take 9 17 (v := ?_) rfl rfl (by rfl) (by kernel_rfl) (fun _ _ _ h => h) hS0.out ?_ ?_
  rotate_left
  · intro w hSw; (try dsimp only at hSw); go_simp; (try with_reducible rfl)
  simp only [List.setIfInBounds_toArray, List.set_cons_zero, List.set_cons_succ]
  refine R_take 10 18 (v := ?_) rfl rfl (by rfl) (by kernel_rfl) (fun _ _ _ h => h) hS0.out ?_ ?_
  rotate_left
  · intro w hSw; (try dsimp only at hSw); go_simp; (try with_reducible rfl)
  simp only [List.setIfInBounds_toArray, List.set_cons_zero, List.set_cons_succ]
  refine R_call 11 19 (w' := w.drew) rfl rfl (by rfl) (by kernel_rfl) ?_ (word_get l a n w.drew h h1 h8 hl) ?_
  · go_simp
  rintro e v1 ⟨rfl, hbv1⟩
  have hBv1 : Below w.heap.size w v1 := ⟨hbv1.os, hbv1.tape, hbv1.output, hbv1.size, hbv1.block⟩
  have hsv1 := rd_cells (HB.out.below hBv1 HB.out.lt)
  refine ⟨_, rfl, fun _ => hsv1, ?_⟩
  simp only [List.setIfInBounds_toArray, List.set_cons_zero, List.set_cons_succ]
  have hS1 := Lib.hid hsv1
  clear hsv1 hbv1
  refine R_take 12 7 (v := ?_) rfl rfl (by rfl) (by kernel_rfl) (fun _ _ _ h => h) hS1.out ?_ ?_
  rotate_left
  · intro w hSw; (try dsimp only at hSw); go_simp; (try with_reducible rfl)
  simp only [List.setIfInBounds_toArray, List.set_cons_zero, List.set_cons_succ]
  refine R_take 13 20 (v := ?_) rfl rfl (by rfl) (by kernel_rfl) (fun _ _ _ h => h) hS1.out ?_ ?_
  rotate_left
  · intro w hSw; (try dsimp only at hSw); go_simp; (try with_reducible rfl)
  simp only [List.setIfInBounds_toArray, List.set_cons_zero, List.set_cons_succ]
  refine R_take 14 21 (v := ?_) rfl rfl (by rfl) (by kernel_rfl) (fun _ _ _ h => h) hS1.out ?_ ?_
  rotate_left
  · intro w hSw; (try dsimp only at hSw); go_simp; (try with_reducible rfl)
  simp only [List.setIfInBounds_toArray, List.set_cons_zero, List.set_cons_succ]
  refine R_take 15 5 (v := ?_) rfl rfl (by rfl) (by kernel_rfl) (fun _ _ _ h => h) hS1.out ?_ ?_
  rotate_left
  · intro w hSw; (try dsimp only at hSw); go_simp; (try with_reducible rfl)
  simp only [List.setIfInBounds_toArray, List.set_cons_zero, List.set_cons_succ]
  refine R_take 16 6 (v := ?_) rfl rfl (by rfl) (by kernel_rfl) (fun _ _ _ h => h) hS1.out ?_ ?_
  rotate_left
  · intro w hSw; (try dsimp only at hSw); go_simp; (try with_reducible rfl)
  simp only [List.setIfInBounds_toArray, List.set_cons_zero, List.set_cons_succ]
  refine R_done (by kernel_rfl) ?_ _
  rename_i K9 hK9
  refine hK9 _ _ ?_
  clear hK9
  have HB1 := Lib.hid (HB.out.below hBv1 HB.out.lt)
  have ht1 : Turns (only g) (only g) w v1 := Turns.of_below hBv1 _
  have p1 := HB1.out.cell 1
  have p2 := HB1.out.cell 2
  have f1 := HB1.out.frozen 1
  have f2 := HB1.out.frozen 2
  simp only [List.getElem?_toArray, List.getElem?_cons_succ, List.getElem?_cons_zero] at p1 p2
  have H2 := Lib.hid ((HB1.out.set_ 1 (.int .i64 (a + n : Nat))).set_ 2 (.bool true))
  have ht2 := (ht1.setCell (p := ⟨g, 1, none⟩) (.inl rfl) (.int .i64 (a + n : Nat))).setCell (p := ⟨g, 2, none⟩) (.inl rfl) (.bool true)
  have hr : Hid (Blk ((v1.setCell ⟨g, 1, none⟩ (.int .i64 ((a : Int) + n))).setCell ⟨g, 2, none⟩ (.bool true)) g 208 #[str l, .int .i64 (a + n : Nat), .bool true] ∧ Turns (only g) (only g) w ((v1.setCell ⟨g, 1, none⟩ (.int .i64 ((a : Int) + n))).setCell ⟨g, 2, none⟩ (.bool true))) := Lib.hid ⟨H2.out, ht2⟩
  clear hS0 hS1 hBv1 ht1 H2 HB HB1 ht2
  go_wp2_with fail
  go_ret
  exact ⟨rfl, hr.out.1, hr.out.2⟩

set_option maxRecDepth 100000 in
set_option maxHeartbeats 2000000 in
theorem rd_text (l : Sp.Bs) (g a n : Nat) (w : World) (h : a + n ≤ l.length) (hl : l.length ≤ 1000000000) (hB : Blk w g 208 #[str l, .int .i64 a, .bool true]) :
    Calls Tryz.prog 123 #[ptr g, .int .i64 n] w fun e w' => e = .returned (str ((l.drop a).take n)) ∧ Blk w' g 208 #[str l, .int .i64 (a + n : Nat), .bool true] ∧ Turns (only g) (only g) w w' := by
  have HB := Lib.hid hB
  clear hB
  go_enter Tryz.func123, Tryz.ntmps123
  go_wp2_with fail
  have hS0 : Hid (w.drew.cell? ⟨g, 0, none⟩ = some (str l) ∧ w.drew.cell? ⟨g, 1, none⟩ = some (.int .i64 a)) := Lib.hid ⟨HB.out.cell 0, HB.out.cell 1⟩
  refine R_begin (fun W => W.cell? ⟨g, 0, none⟩ = some (str l) ∧ W.cell? ⟨g, 1, none⟩ = some (.int .i64 a)) (fun _ => false) rfl ?_
  refine R_take 0 8 (v := ?_) rfl rfl (by rfl) (by kernel_rfl) (fun _ _ _ h => h) hS0.out ?_ ?_
  rotate_left
  · intro w hSw; (try dsimp only at hSw); go_simp; (try with_reducible rfl)
  simp only [List.setIfInBounds_toArray, List.set_cons_zero, List.set_cons_succ]
  refine R_take 1 9 (v := ?_) rfl rfl (by rfl) (by kernel_rfl) (fun _ _ _ h => h) hS0.out ?_ ?_
  rotate_left
  · intro w hSw; (try dsimp only at hSw); go_simp; (try with_reducible rfl)
  simp only [List.setIfInBounds_toArray, List.set_cons_zero, List.set_cons_succ]
  refine R_take 2 10 (v := ?_) rfl rfl (by rfl) (by kernel_rfl) (fun _ _ _ h => h) hS0.out ?_ ?_
  rotate_left
  · intro w hSw; (try dsimp only at hSw); go_simp; (try with_reducible rfl)
  simp only [List.setIfInBounds_toArray, List.set_cons_zero, List.set_cons_succ]
  refine R_take 3 11 (v := ?_) rfl rfl (by rfl) (by kernel_rfl) (fun _ _ _ h => h) hS0.out ?_ ?_
  rotate_left
  · intro w hSw; (try dsimp only at hSw); go_simp; (try with_reducible rfl)
  simp only [List.setIfInBounds_toArray, List.set_cons_zero, List.set_cons_succ]
  refine R_take 4 12 (v := ?_) rfl rfl (by rfl) (by kernel_rfl) (fun _ _ _ h => h) hS0.out ?_ ?_
  rotate_left
  · intro w hSw; (try dsimp only at hSw); go_simp; (try with_reducible rfl)
  simp only [List.setIfInBounds_toArray, List.set_cons_zero, List.set_cons_succ]
  refine R_take 5 13 (v := ?_) rfl rfl (by rfl) (by kernel_rfl) (fun _ _ _ h => h) hS0.out ?_ ?_
  rotate_left
  · intro w hSw; (try dsimp only at hSw); go_simp; (try with_reducible rfl)
  simp only [List.setIfInBounds_toArray, List.set_cons_zero, List.set_cons_succ]
  refine R_take 6 14 (v := ?_) rfl rfl (by rfl) (by kernel_rfl) (fun _ _ _ h => h) hS0.out ?_ ?_
  rotate_left
  · intro w hSw; (try dsimp only at hSw); go_simp; (try with_reducible rfl)
  simp only [List.setIfInBounds_toArray, List.set_cons_zero, List.set_cons_succ]
  refine R_take 7 15 (v := ?_) rfl rfl (by rfl) (by kernel_rfl) (fun _ _ _ h => h) hS0.out ?_ ?_
  rotate_left
  · intro w hSw; (try dsimp only at hSw); go_simp; (try with_reducible rfl)
  simp only [List.setIfInBounds_toArray, List.set_cons_zero, List.set_cons_succ]
  refine R_take 8 16 (v := ?_) rfl rfl (by rfl) (by kernel_rfl) (fun _ _ _ h => h) hS0.out ?_ ?_
  rotate_left
  · intro w hSw; (try dsimp only at hSw); go_simp; (try with_reducible rfl)
  simp only [List.setIfInBounds_toArray, List.set_cons_zero, List.set_cons_succ]
  refine R_take 9 17 (v := ?_) rfl rfl (by rfl) (by kernel_rfl) (fun _ _ _ h => h) hS0.out ?_ ?_
  rotate_left
  · intro w hSw; (try dsimp only at hSw); go_simp; (try with_reducible rfl)
  simp only [List.setIfInBounds_toArray, List.set_cons_zero, List.set_cons_succ]
  refine R_take 10 18 (v := ?_) rfl rfl (by rfl) (by kernel_rfl) (fun _ _ _ h => h) hS0.out ?_ ?_
  rotate_left
  · intro w hSw; (try dsimp only at hSw); go_simp; (try with_reducible rfl)
  simp only [List.setIfInBounds_toArray, List.set_cons_zero, List.set_cons_succ]
  refine R_call 11 19 (w' := w.drew) rfl rfl (by rfl) (by kernel_rfl) ?_ (word_cutB l a n w.drew h hl) ?_
  · go_simp
  rintro e v1 ⟨rfl, hbv1⟩
  have hBv1 : Below w.heap.size w v1 := ⟨hbv1.os, hbv1.tape, hbv1.output, hbv1.size, hbv1.block⟩
  have hsv1 := rd_cells (HB.out.below hBv1 HB.out.lt)
  refine ⟨_, rfl, fun _ => hsv1, ?_⟩
  simp only [List.setIfInBounds_toArray, List.set_cons_zero, List.set_cons_succ]
  have hS1 := Lib.hid hsv1
  clear hsv1 hbv1
  refine R_take 12 7 (v := ?_) rfl rfl (by rfl) (by kernel_rfl) (fun _ _ _ h => h) hS1.out ?_ ?_
  rotate_left
  · intro w hSw; (try dsimp only at hSw); go_simp; (try with_reducible rfl)
  simp only [List.setIfInBounds_toArray, List.set_cons_zero, List.set_cons_succ]
  refine R_take 13 20 (v := ?_) rfl rfl (by rfl) (by kernel_rfl) (fun _ _ _ h => h) hS1.out ?_ ?_
  rotate_left
  · intro w hSw; (try dsimp only at hSw); go_simp; (try with_reducible rfl)
  simp only [List.setIfInBounds_toArray, List.set_cons_zero, List.set_cons_succ]
  refine R_take 14 21 (v := ?_) rfl rfl (by rfl) (by kernel_rfl) (fun _ _ _ h => h) hS1.out ?_ ?_
  rotate_left
  · intro w hSw; (try dsimp only at hSw); go_simp; (try with_reducible rfl)
  simp only [List.setIfInBounds_toArray, List.set_cons_zero, List.set_cons_succ]
  refine R_take 15 5 (v := ?_) rfl rfl (by rfl) (by kernel_rfl) (fun _ _ _ h => h) hS1.out ?_ ?_
  rotate_left
  · intro w hSw; (try dsimp only at hSw); go_simp; (try with_reducible rfl)
  simp only [List.setIfInBounds_toArray, List.set_cons_zero, List.set_cons_succ]
  refine R_take 16 6 (v := ?_) rfl rfl (by rfl) (by kernel_rfl) (fun _ _ _ h => h) hS1.out ?_ ?_
  rotate_left
  · intro w hSw; (try dsimp only at hSw); go_simp; (try with_reducible rfl)
  simp only [List.setIfInBounds_toArray, List.set_cons_zero, List.set_cons_succ]
  refine R_done (by kernel_rfl) ?_ _
  rename_i K9 hK9
  refine hK9 _ _ ?_
  clear hK9
  have HB1 := Lib.hid (HB.out.below hBv1 HB.out.lt)
  have ht1 : Turns (only g) (only g) w v1 := Turns.of_below hBv1 _
  have p1 := HB1.out.cell 1
  have p2 := HB1.out.cell 2
  have f1 := HB1.out.frozen 1
  have f2 := HB1.out.frozen 2
  simp only [List.getElem?_toArray, List.getElem?_cons_succ, List.getElem?_cons_zero] at p1 p2
  have H2 := Lib.hid ((HB1.out.set_ 1 (.int .i64 (a + n : Nat))).set_ 2 (.bool true))
  have ht2 := (ht1.setCell (p := ⟨g, 1, none⟩) (.inl rfl) (.int .i64 (a + n : Nat))).setCell (p := ⟨g, 2, none⟩) (.inl rfl) (.bool true)
  have hr : Hid (Blk ((v1.setCell ⟨g, 1, none⟩ (.int .i64 ((a : Int) + n))).setCell ⟨g, 2, none⟩ (.bool true)) g 208 #[str l, .int .i64 (a + n : Nat), .bool true] ∧ Turns (only g) (only g) w ((v1.setCell ⟨g, 1, none⟩ (.int .i64 ((a : Int) + n))).setCell ⟨g, 2, none⟩ (.bool true))) := Lib.hid ⟨H2.out, ht2⟩
  clear hS0 hS1 hBv1 ht1 H2 HB HB1 ht2
  go_wp2_with fail
  go_ret
  exact ⟨rfl, hr.out.1, hr.out.2⟩
end Go.Proofs.YtphkggcdfkcidaaGreat

/- The walk of package undo: a number that is read next (the closure of Decode). -/
namespace Go.Proofs.YtphkggcdfkcidaaGreat
open Go.RowKit

set_option maxRecDepth 100000 in
set_option maxHeartbeats 2000000 in
theorem ud_next (l : Sp.Bs) (gs ga gl a n : Nat) (w : World) (h : a + n ≤ l.length) (h1 : 1 ≤ n) (h8 : n ≤ 8) (hl : l.length ≤ 1000000000) (hne : ga ≠ gl) (hS : Blk w gs 9 #[str l]) (hA : Blk w ga 3 #[.int .i64 a]) (hL : Blk w gl 4 #[.bool true]) :
    Calls Tryz.prog 98 #[.int .i64 n, ptr gs, ptr ga, ptr gl] w fun e w' => e = .returned (.int .u64 (Sp.num ((l.drop a).take n))) ∧ Blk w' ga 3 #[.int .i64 (a + n : Nat)] ∧ Blk w' gl 4 #[.bool true] ∧ Turns (fun b => b = ga ∨ b = gl) (fun b => b = ga ∨ b = gl) w w' := by
  have HA := Lib.hid hA
  have HL := Lib.hid hL
  have s0 := hS.cell 0
  have a0 := hA.cell 0
  simp only [List.getElem?_toArray, List.getElem?_cons_zero] at s0 a0
  have HG := Lib.hid (word_get l a n w h h1 h8 hl)
  clear hS hA hL
  go_enter Tryz.func98, Tryz.ntmps98
  go_wp2_with fail
  refine HG.out.mono ?_
  rintro e w1 ⟨rfl, hb⟩
  have hA1 := HA.out.below hb HA.out.lt
  have hL1 := HL.out.below hb HL.out.lt
  have a1 := hA1.cell 0
  have l1 := hL1.cell 0
  have f1 := hA1.frozen 0
  have f2 := hL1.frozen 0
  simp only [List.getElem?_toArray, List.getElem?_cons_zero] at a1 l1
  have ht := ((Turns.of_below hb (fun b => b = ga ∨ b = gl)).setCell (p := ⟨gl, 0, none⟩) (.inl (.inr rfl)) (.bool true)).setCell (p := ⟨ga, 0, none⟩) (.inl (.inl rfl)) (.int .i64 (a + n : Nat))
  have hA2 := (hA1.far (p := ⟨gl, 0, none⟩) hne (.bool true)).set_ 0 (.int .i64 (a + n : Nat))
  have hL2 := (hL1.set_ 0 (.bool true)).far (p := ⟨ga, 0, none⟩) (Ne.symm hne) (.int .i64 (a + n : Nat))
  have H2 := Lib.hid (show _ ∧ _ ∧ _ from ⟨hA2, hL2, ht⟩)
  clear hA1 hL1 hA2 hL2 ht hb s0 a0 HG
  have hne2 : gl ≠ ga := Ne.symm hne
  go_wp2_with fail
  go_ret
  exact ⟨rfl, H2.out.1, H2.out.2.1, H2.out.2.2⟩
end Go.Proofs.YtphkggcdfkcidaaGreat

/- The walk of package undo: Before. -/
namespace Go.Proofs.YtphkggcdfkcidaaGreat
open Go.RowKit

theorem undo_before_new (u : Sp.Ud) (h : u.kind = 1) (w : World) : Calls Tryz.prog 22 #[udV u] w fun e w' => e = .returned (.tuple #[.agg #[str [], .bool false, .int .u64 0, .int .u32 0, .int .u16 0, str [], .int .i64 0], .bool false]) ∧ Below w.heap.size w w' := by
  have d1 : ((u.kind : Int) != 2) = true := by simp; omega
  have d2 : decide ((u.kind : Int) = 2) = false := by rw [decide_eq_false_iff_not]; omega
  clear h
  go_enter Tryz.func22, Tryz.ntmps22
  go_wp2_with fail
  refine bodyPost_ret (v := .tuple #[.agg #[str [], .bool false, .int .u64 0, .int .u32 0, .int .u16 0, str [], .int .i64 0], .bool false]) (by rw [results_cell_tmp rfl]; go_simp) rfl ⟨rfl, ?_⟩
  exact ((Below.refl _ _).alloc (Nat.le_refl _) _).alloc (by simp) _
theorem undo_before_put (u : Sp.Ud) (h : u.kind = 2) (w : World) : Calls Tryz.prog 22 #[udV u] w fun e w' => e = .returned (.tuple #[rwV u.was, .bool true]) ∧ Below w.heap.size w w' := by
  have d1 : ((u.kind : Int) != 2) = false := by simp; omega
  have d2 : decide ((u.kind : Int) = 2) = true := by rw [decide_eq_true_eq]; omega
  clear h
  go_enter Tryz.func22, Tryz.ntmps22
  go_wp2_with fail
  refine bodyPost_ret (v := .tuple #[rwV u.was, .bool true]) (by rw [results_cell_tmp rfl]; go_simp) rfl ⟨rfl, ?_⟩
  exact ((Below.refl _ _).alloc (Nat.le_refl _) _).alloc (by simp) _
end Go.Proofs.YtphkggcdfkcidaaGreat

/- The walks of package row: a piece of a reading. -/
namespace Go.Proofs.YtphkggcdfkcidaaGreat
open Go.RowKit

set_option maxRecDepth 100000 in
set_option maxHeartbeats 2000000 in
theorem rd_piece (l : Sp.Bs) (gb g a m : Nat) (w : World) (hm : Sp.num ((l.drop a).take 1) = m) (h : a + 1 + m ≤ l.length) (hl : l.length ≤ 1000000000) (hne : gb ≠ g) (hX : Blk w gb 204 #[ptr g]) (hG : Blk w g 208 #[str l, .int .i64 a, .bool true]) :
    Calls Tryz.prog 122 #[ptr gb] w fun e w' => e = .returned (str ((l.drop (a + 1)).take m)) ∧ Blk w' g 208 #[str l, .int .i64 (a + 1 + m : Nat), .bool true] ∧ Turns (only g) (only g) w w' := by
  have HBX := Lib.hid hX
  have HG := Lib.hid hG
  have HM := Lib.hid hm
  have wr : IntKind.i64.wrap (m : Int) = m := by rw [IntKind.wrap_i64]; omega
  clear hX hG hm
  go_enter Tryz.func122, Tryz.ntmps122
  go_wp2_with fail
  have hS0 := Lib.hid (HBX.out.drew.cell 0)
  refine R_begin (fun W => W.cell? ⟨gb, 0, none⟩ = some (ptr g)) (fun _ => false) rfl ?_
  refine R_take 0 2 (v := ?_) rfl rfl (by rfl) (by kernel_rfl) (fun _ _ _ h => h) hS0.out ?_ ?_
  rotate_left
  · intro w hSw; (try dsimp only at hSw); go_simp; (try with_reducible rfl)
  simp only [List.setIfInBounds_toArray, List.set_cons_zero, List.set_cons_succ]
  refine R_take 1 3 (v := ?_) rfl rfl (by rfl) (by kernel_rfl) (fun _ _ _ h => h) hS0.out ?_ ?_
  rotate_left
  · intro w hSw; (try dsimp only at hSw); go_simp; (try with_reducible rfl)
  simp only [List.setIfInBounds_toArray, List.set_cons_zero, List.set_cons_succ]
  refine R_call 2 4 (w' := w.drew) rfl rfl (by rfl) (by kernel_rfl) ?_ (rd_num l g a 1 w.drew (by omega) (by omega) (by omega) hl HG.out.drew) ?_
  · go_simp
  rintro e v1 ⟨rfl, hg1, ht1⟩
  have HG1 := Lib.hid hg1
  have HBX1 := Lib.hid (HBX.out.drew.turns ht1 (fun e => hne e))
  have hT1 : Turns (only g) (only g) w v1 := ⟨ht1.os, ht1.tape, ht1.output, ht1.size, ht1.block, ht1.foot⟩
  have hS1 := Lib.hid (HBX1.out.cell 0)
  rw [HM.out]
  refine ⟨_, rfl, fun _ => hS1.out, ?_⟩
  simp only [List.setIfInBounds_toArray, List.set_cons_zero, List.set_cons_succ]
  clear hS0 hg1 ht1 HG HBX
  refine R_take 3 5 (v := ?_) rfl rfl (by rfl) (by kernel_rfl) (fun _ _ _ h => h) hS1.out ?_ ?_
  rotate_left
  · intro w hSw; (try dsimp only at hSw); go_simp; (try with_reducible rfl)
  simp only [List.setIfInBounds_toArray, List.set_cons_zero, List.set_cons_succ]
  refine R_call 4 6 (w' := v1) rfl rfl (by rfl) (by kernel_rfl) ?_ (rd_text l g (a + 1) m v1 (by omega) hl HG1.out) ?_
  · go_simp
  rintro e v2 ⟨rfl, hg2, ht2⟩
  have hT2 := hT1.trans ht2
  have hS2 := Lib.hid ((HBX1.out.turns ht2 (fun e => hne e)).cell 0)
  have HG2 := Lib.hid hg2
  refine ⟨_, rfl, fun _ => hS2.out, ?_⟩
  simp only [List.setIfInBounds_toArray, List.set_cons_zero, List.set_cons_succ]
  clear hS1 hg2 ht2 hT1
  refine R_take 5 1 (v := ?_) rfl rfl (by rfl) (by kernel_rfl) (fun _ _ _ h => h) hS2.out ?_ ?_
  rotate_left
  · intro w hSw; (try dsimp only at hSw); go_simp; (try with_reducible rfl)
  simp only [List.setIfInBounds_toArray, List.set_cons_zero, List.set_cons_succ]
  refine R_done (by kernel_rfl) ?_ _
  rename_i K9 hK9
  refine hK9 _ _ ?_
  clear hK9
  go_wp2_with fail
  go_ret
  exact ⟨rfl, HG2.out, hT2⟩
end Go.Proofs.YtphkggcdfkcidaaGreat
