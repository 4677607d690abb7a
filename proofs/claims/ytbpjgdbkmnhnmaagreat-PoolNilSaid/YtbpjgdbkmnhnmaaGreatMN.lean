/- The walks of the law package pentimentolaw15: first. -/
import Derived.Test.YtbpjgdbkmnhnmaaGreatMM
import Derived.Test.YtbpjgdbkmnhnmaaGreatMH

namespace Go.Proofs.YtbpjgdbkmnhnmaaGreat
open Go.RowKit Go.Conc

/-- The page as the law lays it first. -/
def Sp.first (n : Nat) : Sp.Pg := ⟨1, 0, n, 0, 0, [[102, 105, 114, 115, 116]]⟩
theorem Sp.first_ok {n : Nat} (h1 : 1 ≤ n) (h2 : n ≤ 1024) : (Sp.first n).wf ∧ (Sp.first n).may := by
  refine ⟨⟨?_, ?_, ?_, ?_, ?_⟩, ?_, ?_, ?_, ?_, ?_⟩ <;> simp [Sp.first, Sp.total] <;> omega

set_option maxRecDepth 100000 in
set_option maxHeartbeats 1000000 in
theorem law_first (n : Nat) (w : World) : Calls Tryz.prog 29 #[u32v n] w fun e w' =>
    ∃ A c, e = .returned (pgV (Sp.first n) A c) ∧ OkAddr A ∧ RowsAt (fun b => w.heap.size ≤ b) w' A (Sp.first n).rows ∧ Below w.heap.size w w' := by
  go_enter Tryz.func29, Tryz.ntmps29
  go_wp2_with fail
  have hB := (Blk.new w 30 #[.int .u8 1, .int .u8 0, .int .u32 n, .int .u64 0, .int .u32 0, .slice (some ⟨w.heap.size + 1, 0, none⟩) 1 1]).alloc (.cells #[str [102, 105, 114, 115, 116]] 9)
  have hb := ((Below.refl w.heap.size w).alloc (Nat.le_refl _) (.cells #[.int .u8 1, .int .u8 0, .int .u32 n, .int .u64 0, .int .u32 0, .slice (some ⟨w.heap.size + 1, 0, none⟩) 1 1] 30)).alloc (by simp) (.cells #[str [102, 105, 114, 115, 116]] 9)
  have hs := Blk.new (w.alloc (.cells #[.int .u8 1, .int .u8 0, .int .u32 n, .int .u64 0, .int .u32 0, .slice (some ⟨w.heap.size + 1, 0, none⟩) 1 1] 30)) 9 #[str [102, 105, 114, 115, 116]]
  have e1 : (w.alloc (.cells #[.int .u8 1, .int .u8 0, .int .u32 n, .int .u64 0, .int .u32 0, .slice (some ⟨w.heap.size + 1, 0, none⟩) 1 1] 30)).heap.size = w.heap.size + 1 := by simp
  rw [e1] at hs
  refine bodyPost_ret (v := pgV (Sp.first n) (some ⟨w.heap.size + 1, 0, none⟩) 1) (by rw [results_cell_row rfl _ _ w.heap.size 30 _ (0, 0) _ rfl hB Tryz.underlying30 rfl rfl]; rfl) rfl ⟨_, _, rfl, .inr ⟨_, _, rfl⟩, ⟨rfl, fun _ => ⟨w.heap.size + 1, 0, rfl, by omega, hs.lt, fun j u hu => ?_⟩⟩, hb⟩
  rw [Nat.zero_add]
  exact (hs.cell j).trans (by rw [List.getElem?_toArray]; exact hu)
end Go.Proofs.YtbpjgdbkmnhnmaaGreat

/- The walks of the law package pentimentolaw15: Begun. -/
namespace Go.Proofs.YtbpjgdbkmnhnmaaGreat
open Go.RowKit Go.Conc

def pgZero : Value := .agg #[.int .u8 0, .int .u8 0, .int .u32 0, .int .u64 0, .int .u32 0, .slice none 0 0]
theorem page_info : (Tryz.prog.info? 30).map (fun i => (i.zero, i.size, i.bytes)) = some (some pgZero, 6, 48) := by kernel_rfl
theorem blk_news {w : World} {g : Nat} {t : TypeId} {cs : List Value} (h : Blk w g t cs.toArray) : ∀ j u, cs[j]? = some u → w.cell? ((⟨g, 0, none⟩ : Addr).add j) = some u := fun j u hu => by
  have e : (⟨g, 0, none⟩ : Addr).add j = ⟨g, j, none⟩ := by cases j <;> simp [Addr.add]
  rw [e, h.cell, List.getElem?_toArray]; exact hu

theorem row_keep' {w w' : World} {base : Nat} {e : TypeId} {sz : Nat} {v : Value} {n : Nat} {xs : List Value} (h : w.ownsRow base e sz v n xs) (hk : ∀ b, v.ownBlock = some b → w'.heap[b]? = w.heap[b]?) : w'.ownsRow base e sz v n xs := by
  refine ⟨h.1, ?_⟩
  rcases h.2 with h' | ⟨b, cap, cur, rfl, hb, hh, rest⟩
  · exact .inl h'
  · exact .inr ⟨b, cap, cur, rfl, hb, (hk b rfl).trans hh, rest⟩

theorem row_mono {w : World} {base base' : Nat} {e : TypeId} {sz : Nat} {v : Value} {n : Nat} {xs : List Value} (h : w.ownsRow base e sz v n xs) (hb : base' ≤ base) : w.ownsRow base' e sz v n xs := by
  refine ⟨h.1, ?_⟩
  rcases h.2 with h' | ⟨b, cap, cur, rfl, hbb, rest⟩
  · exact .inl h'
  · exact .inr ⟨b, cap, cur, rfl, Nat.le_trans hb hbb, rest⟩

theorem row_base {w : World} {base : Nat} {e : TypeId} {sz : Nat} {v : Value} {n : Nat} {xs : List Value} (h : w.ownsRow base e sz v n xs) {b : Nat} (hb : v.ownBlock = some b) : base ≤ b := by
  rcases h.2 with ⟨rfl, _⟩ | ⟨g, cap, cur, rfl, hbb, rest⟩
  · simp [Value.ownBlock] at hb
  · simp only [Value.ownBlock, Option.some.injEq] at hb
    omega

/-- A disk on which the pages below k stand as they are laid first. -/
structure LawDk (dk : Sp.Dk) (k : Nat) : Prop where
  len : dk.sure.length = 72
  loose : dk.loose = []
  fuse : dk.fuse = -1
  page : ∀ q, 1 ≤ q → q < k → Sp.pageAt dk.sure (44 + q * 4) = pgBytes (Sp.first q)

/-- What holds while the pages are laid. -/
def LayAt (w : World) (n gd gr : Nat) (k : Nat) (wr : World) : Prop :=
  ∃ (v : Value) (xs : List Value) (D : Foot) (dk : Sp.Dk), Blk wr gr 69 #[.int .i64 n, .slice none 0 0, v, .int .u64 110, .int .u64 110] ∧ wr.ownsRow w.heap.size 30 6 v k xs ∧
    IsDk D wr gd dk ∧ LawDk dk k ∧ (∀ b, D b → w.heap.size ≤ b ∧ b ≠ gr ∧ v.ownBlock ≠ some b) ∧ v.ownBlock ≠ some gr ∧ w.heap.size ≤ gr ∧ Below w.heap.size w wr

/-- A pool that has begun, its log and its disk. -/
def BegunPost (w : World) (n : Nat) (e : Ending) (w' : World) : Prop :=
  ∃ (gP gr gd gl gp : Nat) (v : Value) (xs : List Value) (D F : Foot) (dk : Sp.Dk), e = .returned (ptr gP) ∧ Blk w' gP 38 #[ptr gd, ptr gl, ptr gp, ptr gr] ∧
    Blk w' gr 69 #[.int .i64 n, .slice none 0 0, v, .int .u64 110, .int .u64 110] ∧ w'.ownsRow w.heap.size 30 6 v 7 xs ∧
    Blk w' gl 108 (lgCells gd 0 8 1 (.slice none 0 0) (.slice none 0 0) 110 110 110 0) ∧
    IsDk D w' gd dk ∧ LawDk dk 7 ∧ IsPl F w' gp gd gl 8 44 ⟨n, [], List.range n⟩ ∧ (∀ b, D b → ¬ F b) ∧ (∀ b, D b ∨ F b → w.heap.size ≤ b ∧ b ≠ gP ∧ b ≠ gr ∧ b ≠ gl) ∧ Below w.heap.size w w'

set_option maxRecDepth 100000 in
set_option maxHeartbeats 4000000 in
theorem law_begun (n : Nat) (h1 : 1 ≤ n) (h64 : n ≤ 64) (w : World) : Calls Tryz.prog 8 #[.int .i64 n] w (BegunPost w n) := by
  have HDN := Lib.hid fun (W : World) => disk_new 72 W (by omega) (by omega)
  go_enter Tryz.func8, Tryz.ntmps8
  go_wp2_with fail
  refine (HDN.out w).mono ?_
  rintro e w1 ⟨gd, D, rfl, hd, ht⟩
  have hD : ∀ b, D b → w.heap.size ≤ b := fun b hb => (ht.foot b hb).resolve_left (fun h => h)
  have hbw := ht.below_none
  have HD := Lib.hid hd
  have HDF := Lib.hid hD
  clear hd hD ht HDN
  obtain ⟨ip, hip, hp0, hp1, hp2⟩ := info_parts page_info
  go_wp2_with (at_builtin; refine wpList_append_own2 _ rfl _ _ 67 rfl w1.heap.size 30 ip pgZero 6 48 Tryz.underlying67 hip hp0 hp1 hp2 rfl (by decide) _ 0 [] rfl (World.ownsRow_nil _ _ _ _) ⟨w1.heap.size + 1, 0, none⟩ 1 1 [.int .u8 0, .int .u8 0, .int .u32 1048576, .int .u64 0, .int .u32 0, .slice none 0 0] rfl rfl (by have := blk_news (Blk.new (w1.alloc (.cells #[.int .i64 n, .slice none 0 0, .slice none 0 0, .int .u64 110, .int .u64 110] 69)) 30 #[.int .u8 0, .int .u8 0, .int .u32 1048576, .int .u64 0, .int .u32 0, .slice none 0 0]); simpa only [World.size_alloc] using this) (fun x hx => by simp at hx; rcases hx with rfl | rfl | rfl | rfl | rfl | rfl <;> rfl) (by unfold maxLen; omega) (by omega) (by simp; omega) ?_)
  intro v' w2 hrow hg hown
  have hB := ((Blk.new w1 69 #[.int .i64 n, .slice none 0 0, .slice none 0 0, .int .u64 110, .int .u64 110]).alloc (.cells #[.int .u8 0, .int .u8 0, .int .u32 1048576, .int .u64 0, .int .u32 0, .slice none 0 0] 30)).grown hg (fun e => by simp [Value.ownBlock] at e)
  have hb2 := (((Below.refl w1.heap.size w1).alloc (Nat.le_refl _) (.cells #[.int .i64 n, .slice none 0 0, .slice none 0 0, .int .u64 110, .int .u64 110] 69)).alloc (by simp) (.cells #[.int .u8 0, .int .u8 0, .int .u32 1048576, .int .u64 0, .int .u32 0, .slice none 0 0] 30)).grown hg (by simp; omega) (fun r e => by simp [Value.ownBlock] at e)
  have hgl := hB.lt
  obtain ⟨A0, n0, c0, rfl⟩ : ∃ A m c, v' = .slice A m c := by
    rcases hrow.2 with ⟨h0, _⟩ | ⟨g6, c6, _, h0, _⟩
    · exact ⟨_, _, _, h0⟩
    · exact ⟨_, _, _, h0⟩
  have hown2 : (Value.slice A0 n0 c0).ownBlock ≠ some w1.heap.size := fun e => by
    rcases hown _ e with h | h
    · simp [Value.ownBlock] at h
    · omega
  have hownl : ∀ b, (Value.slice A0 n0 c0).ownBlock = some b → w1.heap.size ≤ b := fun b e => by
    rcases hown _ e with h | h
    · simp [Value.ownBlock] at h
    · omega
  have hBs := hB.set_ 2 (.slice A0 n0 c0)
  have hsw : w.heap.size ≤ w1.heap.size := hbw.size
  have hbw2 : Below w.heap.size w (w2.setCell ⟨w1.heap.size, 2, none⟩ (.slice A0 n0 c0)) := (hbw.trans (hb2.mono hsw)).setCell (p := ⟨w1.heap.size, 2, none⟩) hsw _
  have hdl := HD.out.in_
  have hd2 := HD.out.below (hb2.setCell (p := ⟨w1.heap.size, 2, none⟩) (Nat.le_refl _) (.slice A0 n0 c0))
  have hLAY : LayAt w n gd w1.heap.size 1 (w2.setCell ⟨w1.heap.size, 2, none⟩ (.slice A0 n0 c0)) := by
    refine ⟨.slice A0 n0 c0, _, D, _, hBs, (row_mono hrow hsw).kept (grown_set _ ⟨w1.heap.size, 2, none⟩ _) (.inr (fun e => hown2 e)), hd2, ⟨by simp [Sp.newDk], rfl, rfl, fun q h1 h2 => by omega⟩, fun b hb => ⟨HDF.out b hb, ?_, fun e => ?_⟩, hown2, hsw, hbw2⟩
    · have := hdl b hb; omega
    · have := hdl b hb; have := hownl b e; omega
  have c2 := hB.cell 2
  have f2 := hB.frozen 2
  simp only [List.getElem?_toArray, List.getElem?_cons_succ, List.getElem?_cons_zero] at c2
  have HL := Lib.hid hLAY
  clear hLAY hd2 hdl hbw2 hBs hownl hown2 hrow hg hown hB hb2
  go_wp2_with fail
  obtain ⟨w3, hw3⟩ : ∃ w3, w3 = w2.setCell ⟨w1.heap.size, 2, none⟩ (.slice A0 n0 c0) := ⟨_, rfl⟩
  rw [← hw3] at HL ⊢
  clear hw3 c2 f2 hgl HD HDF hbw
  generalize w1.heap.size = gr at *
  go_loopw [6] (fun i wr => ∃ k : Nat, 1 ≤ k ∧ k ≤ 7 ∧ i = .int .u32 k ∧ LayAt w n gd gr k wr) (fun i _ => 7 - (intOf i).toNat)
  case atStart => exact ⟨1, by omega, by omega, rfl, HL.out⟩
  case round =>
    obtain ⟨k, hk1, hk7, rfl, hL⟩ := hrel
    have HLk := Lib.hid hL
    clear hL HL
    by_cases hlt : k < 7
    · have HF := Lib.hid fun W => law_first k W
      have d7 : decide ((k : Int) < 7) = true := by rw [decide_eq_true_eq]; omega
      go_wp2_with fail
      refine (HF.out wr).mono ?_
      rintro e w4 ⟨A, c, rfl, hA, hR, hb4⟩
      have hfo := Sp.first_ok (n := k) (by omega) (by omega)
      have hb5 := (Below.refl w4.heap.size w4).alloc (Nat.le_refl _) (.cells (pgCs (Sp.first k) A c) 30)
      have hR5 := Reads.below hR hb5
      have HE := Lib.hid (page_encode (c := c) hR5 hfo.1 hfo.2)
      have hX := Blk.new w4 30 (pgCs (Sp.first k) A c)
      have hb45 : Below wr.heap.size wr _ := hb4.trans (hb5.mono hb4.size)
      have hg7 : wr.heap.size ≤ w4.heap.size := hb4.size
      go_wp2_with fail
      change Calls Tryz.prog _ #[pgV (Sp.first k) A c] (w4.alloc (.cells (pgCs (Sp.first k) A c) 30)) _
      have hg4 : w4.heap.size < (w4.alloc (.cells (pgCs (Sp.first k) A c) 30)).heap.size := by simp
      obtain ⟨w5, hw5⟩ : ∃ w5, w5 = w4.alloc (.cells (pgCs (Sp.first k) A c) 30) := ⟨_, rfl⟩
      rw [← hw5] at HE hX hb45 hR5 hg4 ⊢
      clear hw5 hb5 hR hb4 HF
      generalize w4.heap.size = g7 at *
      refine HE.out.mono ?_
      rintro e w6 ⟨rfl, hb6⟩
      have hX6 := hX.below hb6 hg4
      have hb46 : Below wr.heap.size wr w6 := hb45.trans (hb6.mono hb45.size)
      have HX := Lib.hid hX6
      clear hX HE hb45 hX6 hb6 hg4
      obtain ⟨v, xs, DD, dk, hB, hrow, hd, hlk, hDs, hvg, hgr, hbr⟩ := HLk.out
      have hlen := pgBytes_length hfo.2
      have hb7 := hb46.alloc hb46.size (.cells #[.int .u32 k, str (pgBytes (Sp.first k))] 75)
      have hd7 := hd.below hb7
      have hHm := Blk.new w6 75 #[.int .u32 k, str (pgBytes (Sp.first k))]
      have hRd : Reads (fun b => b = w6.heap.size) (w6.alloc (.cells #[.int .u32 k, str (pgBytes (Sp.first k))] 75)) 2 (some ⟨w6.heap.size, 0, none⟩) 1 (hcs [(k, pgBytes (Sp.first k))]) :=
        ⟨rfl, fun _ => ⟨w6.heap.size, 0, rfl, rfl, hHm.lt, fun j u hu => by
          rw [Nat.zero_add]
          exact (hHm.cell j).trans (by rw [List.getElem?_toArray]; exact hu)⟩⟩
      have hins : Sp.inside dk.sure.length 8 44 k := by rw [hlk.len]; unfold Sp.inside; omega
      have HTW := Lib.hid (twin_write hd7 hlk.fuse (by rw [hlk.loose]; simp) 8 44 (l := [(k, pgBytes (Sp.first k))]) (c := 1) hRd (by simp) (by simp) (fun x hx => by
        rw [List.mem_singleton.1 hx]
        exact ⟨by show k < _; omega, hlen, hins⟩) (by simp) (by rw [hlk.len]; omega) (by rw [hlk.len]; omega))
      have hone := Sp.twin_one dk hlk.loose hlk.fuse 8 44 k _ hlen hins
      clear hRd hHm HLk hd7
      go_wp2_with fail
      refine HTW.out.mono ?_
      rintro e w7 ⟨D7, rfl, hd7, ht7⟩
      have hrl : ∀ b, v.ownBlock = some b → b < wr.heap.size := fun b hb => by
        obtain ⟨cur, hc⟩ := ownsRow_heap hrow hb
        exact (Array.getElem?_eq_some_iff.1 hc).1
      have hDl := hd.in_
      have hgrl := hB.lt
      have hgX := HX.out.lt
      have hB7 := (hB.below hb7 hgrl).turns ht7 (fun hh => (hDs gr hh).2.1 rfl)
      have hX7 := (HX.out.alloc (.cells #[.int .u32 k, str (pgBytes (Sp.first k))] 75)).turns ht7 (fun hh => by have := hDl g7 hh; omega)
      have hs67 := ht7.size
      have hszb := hb7.size
      have hrow7 := row_keep' (w' := w7) hrow (fun b hb => (ht7.block b (by have := hrl b hb; omega) (fun hh => (hDs b hh).2.2 hb)).trans (hb7.block b (hrl b hb)))
      have hD7 : ∀ b, D7 b → w.heap.size ≤ b ∧ b ≠ gr ∧ v.ownBlock ≠ some b := fun b hb => by
        have hz := hbr.size
        rcases ht7.foot b hb with h | h
        · exact hDs b h
        · refine ⟨by omega, by omega, fun e => ?_⟩
          have := hrl b e; omega
      have hbw7 : Below w.heap.size w w7 := (hbr.trans (hb7.mono hbr.size)).trans (ht7.below (Nat.le_trans hbr.size hszb) (fun b hb => (hDs b hb).1))
      have hlk7 : LawDk (dk.acts (Sp.twinActs 8 44 [(k, pgBytes (Sp.first k))])) (k + 1) := by
        refine ⟨hone.2.2.1.trans hlk.len, hone.1, hone.2.1, fun q hq1 hq2 => ?_⟩
        by_cases e : q = k
        · rw [e]; exact hone.2.2.2.1
        · rw [hone.2.2.2.2 q e (by omega) (by rw [hlk.len]; omega)]
          exact hlk.page q hq1 (by omega)
      have hmeas : k + 1 ≤ 7 := hlt
      have hown7 : ∀ b, v.ownBlock = some b → b < w7.heap.size := fun b hb => by have := hrl b hb; omega
      have hd7l := hd7.in_
      obtain ⟨dk7, hdk7⟩ : ∃ d, d = dk.acts (Sp.twinActs 8 44 [(k, pgBytes (Sp.first k))]) := ⟨_, rfl⟩
      rw [← hdk7] at hd7 hlk7
      clear hdk7 hone hDs hlk hins ht7 hb7 hd hrow hB hDl hbr HTW HX
      go_wp2_with fail
      have c2 := hB7.cell 2
      simp only [List.getElem?_toArray, List.getElem?_cons_succ, List.getElem?_cons_zero] at c2
      have hS := Lib.hid (⟨c2, hX7⟩ : w7.drew.cell? ⟨gr, 2, none⟩ = some v ∧ Blk w7.drew g7 30 (pgCs (Sp.first k) A c))
      clear c2
      refine R_begin (fun W => W.cell? ⟨gr, 2, none⟩ = some v ∧ Blk W g7 30 (pgCs (Sp.first k) A c)) (fun j => decide (8 ≤ j)) rfl ?_
      refine R_take 0 59 (v := ?_) rfl rfl (by rfl) (by kernel_rfl) (fun _ _ _ h => h) hS.out ?_ ?_
      rotate_left
      · intro w hSw; (try dsimp only at hSw); go_simp; (try with_reducible rfl)
      simp only [List.setIfInBounds_toArray, List.set_cons_zero, List.set_cons_succ]
      refine R_take 1 60 (v := ?_) rfl rfl (by rfl) (by kernel_rfl) (fun _ _ _ h => h) hS.out ?_ ?_
      rotate_left
      · intro w hSw; (try dsimp only at hSw); go_simp; (try with_reducible rfl)
      simp only [List.setIfInBounds_toArray, List.set_cons_zero, List.set_cons_succ]
      refine R_take 2 61 (v := ?_) rfl rfl (by rfl) (by kernel_rfl) (fun _ _ _ h => h) hS.out ?_ ?_
      rotate_left
      · intro w hSw; (try dsimp only at hSw); go_simp; (try with_reducible rfl)
      simp only [List.setIfInBounds_toArray, List.set_cons_zero, List.set_cons_succ]
      refine R_take 3 62 (v := ?_) rfl rfl (by rfl) (by kernel_rfl) (fun _ _ _ h => h) hS.out ?_ ?_
      rotate_left
      · intro w hSw; (try dsimp only at hSw); go_simp; (try with_reducible rfl)
      simp only [List.setIfInBounds_toArray, List.set_cons_zero, List.set_cons_succ]
      refine R_take 4 63 (v := ?_) rfl rfl (by rfl) (by kernel_rfl) (fun _ _ _ h => h) hS.out ?_ ?_
      rotate_left
      · intro w hSw; (try dsimp only at hSw); go_simp; (try with_reducible rfl)
      simp only [List.setIfInBounds_toArray, List.set_cons_zero, List.set_cons_succ]
      refine R_take 5 64 (v := pgV (Sp.first k) A c) rfl rfl (by rfl) (by kernel_rfl) (fun _ _ _ h => h) hS.out ?_ ?_
      · intro w hSw
        exact run_op_load _ _ _ rfl rfl (run_loadVar_row w g7 _ _ _ _ _ hSw.2 Tryz.underlying30 rfl rfl)
      simp only [List.setIfInBounds_toArray, List.set_cons_zero, List.set_cons_succ]
      have hT8 := (Turns.refl noFoot w7).drew.alloc (.cells (pgCs (Sp.first k) A c) 30)
      refine R_run 6 65 (v := .slice (some ⟨w7.drew.heap.size, 0, none⟩) 1 1) (w' := w7.drew.alloc (.cells (pgCs (Sp.first k) A c) 30)) rfl rfl (by rfl) (by kernel_rfl) ?_ ?_ ?_
      · go_simp
      · exact fun _ => ⟨(((hB7.turns hT8 (fun e => e)).cell 2).trans rfl), hX7.turns hT8 (fun e => e)⟩
      simp only [List.setIfInBounds_toArray, List.set_cons_zero, List.set_cons_succ]
      have hB8 := hB7.turns hT8 (fun e => e)
      have hrow8 := row_keep' (w' := w7.drew.alloc (.cells (pgCs (Sp.first k) A c) 30)) hrow7 (fun b hb => hT8.block b (hown7 b hb) (fun e => e))
      have hN8 := Blk.new w7.drew 30 (pgCs (Sp.first k) A c)
      have hX8 := hX7.turns hT8 (fun e => e)
      have hs8 := hT8.size
      have hgr7 := hB7.lt
      have hg77 := hX7.lt
      have hbw8 : Below w.heap.size w _ := hbw7.trans ((hT8.below_none).mono hbw7.size)
      have hd8 := hd7.below hT8.below_none
      obtain ⟨g8, hg8⟩ : ∃ g, g = w7.drew.heap.size := ⟨_, rfl⟩
      obtain ⟨w8, hw8⟩ : ∃ w8, w8 = w7.drew.alloc (.cells (pgCs (Sp.first k) A c) 30) := ⟨_, rfl⟩
      rw [← hw8, ← hg8] at hN8
      rw [← hw8] at hB8 hrow8 hX8 hs8 hbw8 hd8
      rw [← hw8, ← hg8]
      clear hw8 hg8 hT8 hS hrow7 hX7 hB7 hd7 hbw7
      refine R_step 7 rfl (by rfl) (by kernel_rfl) ?_
      refine wp_append_own2 _ _ _ _ rfl w.heap.size 30 ip pgZero 6 48 Tryz.underlying67 hip hp0 hp1 hp2 rfl (by decide) _ _ _ rfl hrow8 ⟨g8, 0, none⟩ 1 1 (pgCs (Sp.first k) A c).toList rfl rfl (blk_news hN8) (fun x hx => by simp at hx; rcases hx with rfl | rfl | rfl | rfl | rfl | rfl <;> rfl) (by unfold maxLen; omega) (by omega) ?_ ?_
      · exact hbw8.size
      intro v2 w9 q1 q2 q3
      have hB9 := hB8.grown q2 (fun e => hvg e.symm)
      have hX9 := hX8.grown q2 (fun e => by have := hrl g7 e.symm; omega)
      have hSS : w9.cell? ⟨gr, 2, none⟩ = some v ∧ Blk w9 g7 30 (pgCs (Sp.first k) A c) := ⟨(hB9.cell 2).trans rfl, hX9⟩
      have hd8l := hd8.in_
      have hd9 := hd8.keep (fun b hb => q2.block b (hd8l b hb) (fun e => (hD7 b hb).2.2 e.symm))
      have hbw9 := hbw8.grown q2 hbw8.size (fun b e => (row_base hrow8 e))
      obtain ⟨x0, x1, x2, rfl⟩ : ∃ g m c, v2 = .slice (some ⟨g, 0, none⟩) m c := by
        rcases q1.2 with ⟨_, h0⟩ | ⟨g6, c6, _, h0, _⟩
        · omega
        · exact ⟨g6, _, c6, h0⟩
      have c2 := hB9.cell 2
      have f2 := hB9.frozen 2
      simp only [List.getElem?_toArray, List.getElem?_cons_succ, List.getElem?_cons_zero] at c2
      have hv2 : (Value.slice (some ⟨x0, 0, none⟩) x1 x2).ownBlock ≠ some gr := fun e => by
        rcases q3 gr e with h | h
        · exact hvg h
        · omega
      have hLA : LayAt w n gd gr (k + 1) (w9.setCell ⟨gr, 2, none⟩ (.slice (some ⟨x0, 0, none⟩) x1 x2)) := by
        refine ⟨_, _, D7, dk7, hB9.set_ 2 _, q1.kept (grown_set _ ⟨gr, 2, none⟩ _) (.inr (fun e => hv2 e)), hd9.keep (fun b hb => Below.heap_setCell w9 _ _ b (hD7 b hb).2.1), hlk7, fun b hb => ⟨(hD7 b hb).1, (hD7 b hb).2.1, fun e => ?_⟩, hv2, hgr, hbw9.setCell (p := ⟨gr, 2, none⟩) hgr _⟩
        rcases q3 b e with h | h
        · exact (hD7 b hb).2.2 h
        · have := hd7l b hb; omega
      have HLA := Lib.hid hLA
      clear hLA q1 q2 q3 hd8 hd9 hB8 hX8 hrow8 hX9 hN8 hbw8 hbw9
      refine ⟨fun _ => hSS, ?_⟩
      refine R_put 66 rfl ?_
      simp only [List.setIfInBounds_toArray, List.set_cons_zero, List.set_cons_succ]
      refine R_run 8 67 (v := ptr gr) (w' := w9) rfl rfl (by rfl) (by kernel_rfl) (by go_simp) (fun h => nomatch h) ?_
      simp only [List.setIfInBounds_toArray, List.set_cons_zero, List.set_cons_succ]
      refine R_run 9 68 (v := .pointer (some ⟨gr, 2, none⟩)) (w' := w9) rfl rfl (by rfl) (by kernel_rfl) (by go_simp) (fun h => nomatch h) ?_
      simp only [List.setIfInBounds_toArray, List.set_cons_zero, List.set_cons_succ]
      refine R_store 10 (n := .skip) (w' := w9.setCell ⟨gr, 2, none⟩ (.slice (some ⟨x0, 0, none⟩) x1 x2)) rfl rfl (by rfl) (by kernel_rfl) (by go_simp) (.inl rfl) (fun h => nomatch h) ?_
      refine R_done (by kernel_rfl) ?_ _
      rename_i K9 hK9
      refine hK9 _ _ ?_
      go_wp2_with fail
      go_roundw
      case rel => exact ⟨k + 1, by omega, hmeas, by go_num, HLA.out⟩
      case measure => simp [intOf]; omega
    · obtain rfl : k = 7 := by omega
      obtain ⟨v, xs, DD, dk, hB, hrow, hd, hlk, hDs, hvg, hgr, hbr⟩ := HLk.out
      have HLN := Lib.hid (log_new hd 0 8 1 (by omega) (by omega) (by rw [hlk.len]; omega) (by omega))
      have HPN := Lib.hid fun (gl : Nat) (W : World) => pool_new gd gl 8 44 n h1 h64 W
      clear HLk
      go_wp2_with fail
      refine HLN.out.mono ?_
      rintro e w4 ⟨rfl, hw4⟩
      have hLb := Blk.new wr 108 (lgCells gd 0 8 1 (.slice none 0 0) (.slice none 0 0) 110 110 110 0)
      have hb4 := (Below.refl wr.heap.size wr).alloc (Nat.le_refl _) (.cells (lgCells gd 0 8 1 (.slice none 0 0) (.slice none 0 0) 110 110 110 0) 108)
      have hgrl := hB.lt
      have hDl := hd.in_
      have hrl : ∀ b, v.ownBlock = some b → b < wr.heap.size := fun b hb => by
        obtain ⟨cur, hc⟩ := ownsRow_heap hrow hb
        exact (Array.getElem?_eq_some_iff.1 hc).1
      have hwr : w.heap.size ≤ wr.heap.size := hbr.size
      go_wp2_with fail
      refine (HPN.out wr.heap.size _).mono ?_
      rintro e w5 ⟨gp, F, rfl, hpl, hb5, hF⟩
      have hs4 := hb4.size
      have hLl := hLb.lt
      have hb45 : Below wr.heap.size wr w5 := hb4.trans (hb5.mono hs4)
      have hL5 := hLb.below hb5 hLl
      have hB5 := hB.below hb45 hgrl
      have hd5 := hd.below hb45
      have hrow5 := row_keep' (w' := w5) hrow (fun b hb => hb45.block b (hrl b hb))
      have hbw5 : Below w.heap.size w w5 := hbr.trans (hb45.mono hwr)
      have hs45 := hb45.size
      have hFl : ∀ b, F b → wr.heap.size + 1 ≤ b := fun b hb => by have := hF b hb; simpa using this
      have hpll := hpl.lt
      have HPL := Lib.hid hpl
      have hs5 : wr.heap.size < w5.heap.size := hL5.lt
      generalize wr.heap.size = gl at *
      clear hpl hb45 hb5 hb4 hLb hB hd hrow hbr HPN HLN hF
      go_wp2_with fail
      go_ret
      refine ⟨w5.heap.size, gr, gd, gl, gp, v, xs, DD, F, dk, rfl, Blk.new w5 _ _, hB5.alloc _, row_keep' hrow5 (fun b hb => Below.heap_alloc w5 _ b (by have := hrl b hb; omega)), hL5.alloc _, hd5.below ((Below.refl _ w5).alloc (Nat.le_refl _) _), hlk, HPL.out.below ((Below.refl _ w5).alloc (Nat.le_refl _) _), fun b hb hf => ?_, fun b hb => ?_, hbw5.alloc hbw5.size _⟩
      · have := hDl b hb; have := hFl b hf; omega
      · rcases hb with hb | hb
        · have := hDl b hb
          exact ⟨(hDs b hb).1, by omega, (hDs b hb).2.1, by omega⟩
        · have := hpll b hb; have := hFl b hb
          exact ⟨by omega, by omega, by omega, by omega⟩
end Go.Proofs.YtbpjgdbkmnhnmaaGreat
