/- The walks of CheckOldest: check.Oldest, least, works. -/
import Derived.Test.YtmncnnhggjefhaaProg
import Derived.WalkKit
import Derived.Outline
import Derived.LoopTactic
import Derived.IntWalk
import Derived.Below
import Derived.Lib.Hide
import Derived.Deep.LoopGhost
import Derived.WalkLawsBesides
import Derived.WalkSpells
namespace Go.Proofs.Ytmncnnhggjefhaa
open Go.RowKit

def mins (b : Int) (f : Nat → Int) : Nat → Int
  | 0 => b
  | k + 1 => if f k < mins b f k then f k else mins b f k

structure Rd2 (w : World) (A : Option Addr) (n : Nat) (p f : Nat → Int) : Prop where
  at_ : 0 < n → ∃ b o, A = some ⟨b, o, none⟩ ∧ b < w.heap.size ∧ ∀ i, i < n → w.cell? ⟨b, o + i * 2, none⟩ = some (.int .u32 (p i)) ∧ w.cell? ⟨b, o + i * 2 + 1, none⟩ = some (.int .u64 (f i))
structure Rd4 (w : World) (A : Option Addr) (n : Nat) (t f l x : Nat → Int) : Prop where
  at_ : 0 < n → ∃ b o, A = some ⟨b, o, none⟩ ∧ b < w.heap.size ∧ ∀ i, i < n → w.cell? ⟨b, o + i * 4, none⟩ = some (.int .u64 (t i)) ∧ w.cell? ⟨b, o + i * 4 + 1, none⟩ = some (.int .u64 (f i)) ∧ w.cell? ⟨b, o + i * 4 + 2, none⟩ = some (.int .u64 (l i)) ∧ w.cell? ⟨b, o + i * 4 + 3, none⟩ = some (.int .u64 (x i))

set_option maxRecDepth 100000 in
set_option maxHeartbeats 1000000 in
theorem oldest_any (b0 : Int) (A B : Option Addr) (nD cD nT cT : Nat) (pD fD tT fT lT xT : Nat → Int) (tx nm : Int) (w : World)
   (hD : Rd2 w A nD pD fD) (hT : Rd4 w B nT tT fT lT xT) (hnD : nD ≤ 1000000) (hnT : nT ≤ 1000000) :
    Calls Try.prog 5 #[.int .u64 b0, .agg #[.slice A nD cD, .slice B nT cT, .int .u64 tx, .int .u64 nm]] w fun e w' =>
      e = .returned (.int .u64 (mins (mins b0 fD nD) fT nT)) ∧ Below w.heap.size w w' := by
  go_enter Try.func5, Try.ntmps5
  go_wp2
  go_loopw [0, 12] (fun b i wr => ∃ k : Nat, k ≤ nD ∧ i = .int .i64 k ∧ b = .int .u64 (mins b0 fD k) ∧ Below w.heap.size w wr ∧ w.heap.size < wr.heap.size ∧ wr.cell? ⟨w.heap.size, 1, none⟩ = some (.slice B nT cT)) (fun _ i _ => nD - (intOf i).toNat)
  case atStart => exact ⟨0, by omega, rfl, rfl, (Below.refl _ _).alloc (Nat.le_refl _) _, by simp, by go_simp⟩
  case round =>
    obtain ⟨k, hk, rfl, rfl, hb, hsz, hbox⟩ := hrel
    by_cases hlt : k < nD
    · obtain ⟨bD, oD, rfl, hbD, hc⟩ := hD.at_ (by omega)
      obtain ⟨hc1, hc2⟩ := hc k hlt
      have hbs := hb.size
      rw [← hb.cell (p := ⟨bD, oD + k * 2, none⟩) hbD] at hc1
      rw [← hb.cell (p := ⟨bD, oD + k * 2 + 1, none⟩) hbD] at hc2
      clear hc
      go_wp2
      go_roundw
      case rel => exact ⟨k + 1, by omega, by go_num, rfl, hb.alloc hbs _, by simp; omega, (World.cell?_alloc_lt _ _ _ (by simpa using hsz)).trans hbox⟩
      case measure => simp [intOf]; omega
    · have hbs := hb.size
      obtain rfl : k = nD := by omega
      generalize hm : mins b0 fD k = m at *
      have Hm := Lib.hid hm
      clear hm
      go_wp2
      go_loopw [0, 24] (fun b i wr => ∃ j : Nat, j ≤ nT ∧ i = .int .i64 j ∧ b = .int .u64 (mins m fT j) ∧ Below w.heap.size w wr) (fun _ i _ => nT - (intOf i).toNat)
      case atStart => exact ⟨0, by omega, rfl, rfl, hb⟩
      case round =>
        clear hb hbs hbox hsz
        obtain ⟨j, hj, rfl, rfl, hb⟩ := hrel
        have hbs := hb.size
        by_cases hlt2 : j < nT
        · obtain ⟨bT, oT, rfl, hbT, hc⟩ := hT.at_ (by omega)
          obtain ⟨hc1, hc2, hc3, hc4⟩ := hc j hlt2
          rw [← hb.cell (p := ⟨bT, _, none⟩) hbT] at hc1 hc2 hc3 hc4
          clear hc
          go_wp2
          go_roundw
          case rel => exact ⟨j + 1, by omega, by go_num, rfl, hb.alloc hbs _⟩
          case measure => simp [intOf]; omega
        · obtain rfl : j = nT := by omega
          go_wp2
          go_ret
          exact ⟨by rw [Hm.out]; rfl, hb⟩

set_option maxRecDepth 100000 in
set_option maxHeartbeats 1000000 in
theorem least_any (b0 : Int) (A B : Option Addr) (nD cD nT cT : Nat) (pD fD tT fT lT xT : Nat → Int) (tx nm : Int) (w : World)
   (hD : Rd2 w A nD pD fD) (hT : Rd4 w B nT tT fT lT xT) (hnD : nD ≤ 1000000) (hnT : nT ≤ 1000000) :
    Calls Try.prog 6 #[.int .u64 b0, .agg #[.slice A nD cD, .slice B nT cT, .int .u64 tx, .int .u64 nm]] w fun e w' =>
      e = .returned (.int .u64 (mins (mins b0 fD nD) fT nT)) ∧ Below w.heap.size w w' := by
  go_enter Try.func6, Try.ntmps6
  go_wp2
  go_loop [0, 5] (fun b i => ∃ k : Nat, k ≤ nD ∧ i = .int .i64 k ∧ b = .int .u64 (mins b0 fD k)) (fun _ i => nD - (intOf i).toNat)
  case atStart => exact ⟨0, by omega, rfl, rfl⟩
  case round =>
    obtain ⟨k, hk, rfl, rfl⟩ := hrel
    by_cases hlt : k < nD
    · obtain ⟨bD, oD, rfl, hbD, hc⟩ := hD.at_ (by omega)
      obtain ⟨hc1, hc2⟩ := hc k hlt
      clear hc
      by_cases hf : fD k < mins b0 fD k
      · have hf' : mins b0 fD (k + 1) = fD k := by simp [mins, hf]
        go_wp2
        go_round
        case rel => exact ⟨k + 1, by omega, by go_num, by rw [hf']⟩
        case measure => simp [intOf]; omega
      · have hf' : mins b0 fD (k + 1) = mins b0 fD k := by simp [mins, hf]
        go_wp2
        go_round
        case rel => exact ⟨k + 1, by omega, by go_num, by rw [hf']⟩
        case measure => simp [intOf]; omega
    · obtain rfl : k = nD := by omega
      generalize hm : mins b0 fD k = m at *
      have Hm := Lib.hid hm
      clear hm
      go_wp2
      go_loop [0, 6] (fun b i => ∃ j : Nat, j ≤ nT ∧ i = .int .i64 j ∧ b = .int .u64 (mins m fT j)) (fun _ i => nT - (intOf i).toNat)
      case atStart => exact ⟨0, by omega, rfl, rfl⟩
      case round =>
        obtain ⟨j, hj, rfl, rfl⟩ := hrel
        by_cases hlt2 : j < nT
        · obtain ⟨bT, oT, rfl, hbT, hc⟩ := hT.at_ (by omega)
          obtain ⟨hc1, hc2, hc3, hc4⟩ := hc j hlt2
          clear hc
          by_cases hf : fT j < mins m fT j
          · have hf' : mins m fT (j + 1) = fT j := by simp [mins, hf]
            go_wp2
            go_round
            case rel => exact ⟨j + 1, by omega, by go_num, by rw [hf']⟩
            case measure => simp [intOf]; omega
          · have hf' : mins m fT (j + 1) = mins m fT j := by simp [mins, hf]
            go_wp2
            go_round
            case rel => exact ⟨j + 1, by omega, by go_num, by rw [hf']⟩
            case measure => simp [intOf]; omega
        · obtain rfl : j = nT := by omega
          go_wp2
          go_ret
          exact ⟨by rw [Hm.out]; rfl, (Below.refl _ _).alloc (Nat.le_refl _) _⟩
end Go.Proofs.Ytmncnnhggjefhaa
