/- works and CheckOldest. -/
import Derived.Test.YtmncnnhggjefhaaWalk1
import Derived.Deep.RegionHeld3
import Derived.Deep.RegionWith
import Derived.BigQuiet
namespace Go.Proofs.Ytmncnnhggjefhaa
open Go.RowKit

theorem bcell {W w1 : World} (hb : Below W.heap.size W w1) : (∀ b o, b < W.heap.size → w1.cell? ⟨b, o, none⟩ = W.cell? ⟨b, o, none⟩) ∧ (∀ b o, b < W.heap.size → w1.frozen? ⟨b, o, none⟩ = W.frozen? ⟨b, o, none⟩) :=
  ⟨fun b o h => hb.cell (p := ⟨b, o, none⟩) h, fun b o h => hb.frozen (p := ⟨b, o, none⟩) h⟩

theorem Rd2.below {w w' : World} {A : Option Addr} {n : Nat} {p f : Nat → Int} (h : Rd2 w A n p f) (hb : Below w.heap.size w w') : Rd2 w' A n p f :=
  ⟨fun hn => by
    obtain ⟨b, o, e, hlt, hc⟩ := h.at_ hn
    exact ⟨b, o, e, Nat.lt_of_lt_of_le hlt hb.size, fun i hi => by rw [hb.cell (p := ⟨b, _, none⟩) hlt, hb.cell (p := ⟨b, _, none⟩) hlt]; exact hc i hi⟩⟩
theorem Rd4.below {w w' : World} {A : Option Addr} {n : Nat} {t f l x : Nat → Int} (h : Rd4 w A n t f l x) (hb : Below w.heap.size w w') : Rd4 w' A n t f l x :=
  ⟨fun hn => by
    obtain ⟨b, o, e, hlt, hc⟩ := h.at_ hn
    refine ⟨b, o, e, Nat.lt_of_lt_of_le hlt hb.size, fun i hi => ?_⟩
    rw [hb.cell (p := ⟨b, _, none⟩) hlt, hb.cell (p := ⟨b, _, none⟩) hlt, hb.cell (p := ⟨b, _, none⟩) hlt, hb.cell (p := ⟨b, _, none⟩) hlt]
    exact hc i hi⟩

set_option maxRecDepth 100000 in
set_option maxHeartbeats 1000000 in
theorem works_any (w : World) :
    Calls Try.prog 4 #[] w fun e w' => e = .returned (.bool true) ∧ Below w.heap.size w w' := by
  go_enter Try.func4, Try.ntmps4
  go_wp2_with fail
  refine (oldest_any 300 _ _ 1 1 1 1 (fun _ => 1) (fun _ => 200) (fun _ => 1) (fun _ => 250) (fun _ => 250) (fun _ => 0) 0 0 _ ⟨fun _ => ⟨_, _, rfl, by simp; omega, fun i hi => ?_⟩⟩ ⟨fun _ => ⟨_, _, rfl, by simp, fun i hi => ?_⟩⟩ (by omega) (by omega)).mono ?_
  · obtain rfl : i = 0 := by omega
    go_simp
  · obtain rfl : i = 0 := by omega
    go_simp
  rintro e w1 ⟨rfl, hb⟩
  have hm : mins (mins 300 (fun _ => 200) 1) (fun _ => 250) 1 = 200 := by decide
  rw [hm]
  clear hm
  obtain ⟨hc, hf⟩ := bcell hb
  have hs := hb.size
  go_wp2_with fail
  refine (oldest_any 100 _ _ 1 1 1 1 (fun _ => 1) (fun _ => 200) (fun _ => 1) (fun _ => 250) (fun _ => 250) (fun _ => 0) 0 0 _ ⟨fun _ => ⟨_, _, rfl, by simp at hs ⊢; omega, fun i hi => ?_⟩⟩ ⟨fun _ => ⟨_, _, rfl, by simp at hs ⊢; omega, fun i hi => ?_⟩⟩ (by omega) (by omega)).mono ?_
  · obtain rfl : i = 0 := by omega
    go_simp
  · obtain rfl : i = 0 := by omega
    go_simp
  rintro e w2 ⟨rfl, hb2⟩
  have hm : mins (mins 100 (fun _ => 200) 1) (fun _ => 250) 1 = 100 := by decide
  rw [hm]
  clear hm
  go_wp2_with fail
  go_ret
  refine ⟨rfl, ?_⟩
  refine ((((Below.refl _ _).alloc (Nat.le_refl _) _).alloc (by simp) _).alloc (by simp; omega) _).trans ((hb.mono (by simp; omega)).trans (hb2.mono ?_))
  simp at hs ⊢; omega

theorem belowS {w w1 : World} {c0 c1 c2 c3 : Value} (h : w1.cell? ⟨w.heap.size, 0, none⟩ = some c0 ∧ w1.cell? ⟨w.heap.size, 1, none⟩ = some c1 ∧ w1.cell? ⟨w.heap.size, 2, none⟩ = some c2 ∧
      w1.cell? ⟨w.heap.size, 3, none⟩ = some c3 ∧ Below w.heap.size w w1 ∧ w.heap.size < w1.heap.size) : Below w.heap.size w w1 := h.2.2.2.2.1
theorem keepS {w w1 w2 : World} {c0 c1 c2 c3 : Value} (h : w1.cell? ⟨w.heap.size, 0, none⟩ = some c0 ∧ w1.cell? ⟨w.heap.size, 1, none⟩ = some c1 ∧ w1.cell? ⟨w.heap.size, 2, none⟩ = some c2 ∧
      w1.cell? ⟨w.heap.size, 3, none⟩ = some c3 ∧ Below w.heap.size w w1 ∧ w.heap.size < w1.heap.size) (hb : Below w1.heap.size w1 w2) :
    w2.cell? ⟨w.heap.size, 0, none⟩ = some c0 ∧ w2.cell? ⟨w.heap.size, 1, none⟩ = some c1 ∧ w2.cell? ⟨w.heap.size, 2, none⟩ = some c2 ∧
      w2.cell? ⟨w.heap.size, 3, none⟩ = some c3 ∧ Below w.heap.size w w2 ∧ w.heap.size < w2.heap.size := by
  obtain ⟨h0, h1, h2, h3, h4, h5⟩ := h
  have hc := (bcell hb).1
  refine ⟨(hc _ _ h5).trans h0, (hc _ _ h5).trans h1, (hc _ _ h5).trans h2, (hc _ _ h5).trans h3, h4.trans (hb.mono h4.size), Nat.lt_of_lt_of_le h5 hb.size⟩

set_option maxRecDepth 100000 in
set_option maxHeartbeats 1000000 in
theorem check_big (b0 : Int) (A B : Option Addr) (nD cD nT cT : Nat) (tx nm : Int) (w : World)
   (hnD : nD ≤ maxLen) (hnT : nT ≤ maxLen) (hbig : 100 < nD ∨ 100 < nT) :
    Calls Try.prog 3 #[.int .u64 b0, .agg #[.slice A nD cD, .slice B nT cT, .int .u64 tx, .int .u64 nm]] w fun e w' =>
      e = .returned (.bool true) ∧ Below w.heap.size w w' := by
  unfold maxLen at hnD hnT
  by_cases h1 : 100 < nD
  · go_enter Try.func3, Try.ntmps3
    go_wp2_with fail
    refine (works_any _).mono ?_
    rintro e w1 ⟨rfl, hb⟩
    go_wp2_with fail
    go_ret
    exact ⟨rfl, ((Below.refl _ _).alloc (Nat.le_refl _) _).trans (hb.mono (by simp))⟩
  · have h2 : 100 < nT := by omega
    clear hbig
    go_enter Try.func3, Try.ntmps3
    go_wp2_with fail
    refine (works_any _).mono ?_
    rintro e w1 ⟨rfl, hb⟩
    go_wp2_with fail
    go_ret
    exact ⟨rfl, ((Below.refl _ _).alloc (Nat.le_refl _) _).trans (hb.mono (by simp))⟩

set_option maxRecDepth 100000 in
set_option maxHeartbeats 2000000 in
theorem check_small (b0 : Int) (A B : Option Addr) (nD cD nT cT : Nat) (pD fD tT fT lT xT : Nat → Int) (tx nm : Int) (w : World)
   (hD : Rd2 w A nD pD fD) (hT : Rd4 w B nT tT fT lT xT) (hnD : nD ≤ 100) (hnT : nT ≤ 100) :
    Calls Try.prog 3 #[.int .u64 b0, .agg #[.slice A nD cD, .slice B nT cT, .int .u64 tx, .int .u64 nm]] w fun e w' =>
      e = .returned (.bool true) ∧ Below w.heap.size w w' := by
  go_enter Try.func3, Try.ntmps3
  go_wp2_with fail
  go_region_held3 (fun w' => w'.cell? ⟨w.heap.size, 0, none⟩ = some (.slice A nD cD) ∧ w'.cell? ⟨w.heap.size, 1, none⟩ = some (.slice B nT cT) ∧ w'.cell? ⟨w.heap.size, 2, none⟩ = some (.int .u64 tx) ∧
      w'.cell? ⟨w.heap.size, 3, none⟩ = some (.int .u64 nm) ∧ Below w.heap.size w w' ∧ w.heap.size < w'.heap.size)
    (first
      | (refine ⟨by go_simp, by go_simp, by go_simp, by go_simp, ((Below.refl _ _).alloc (Nat.le_refl _) _).drew, by simp⟩)
      | (refine keepS ?_ hb; assumption))
    (first
      | (go_at_call 5; refine (oldest_any b0 A B nD cD nT cT pD fD tT fT lT xT tx nm _ ?_ ?_ (by omega) (by omega)).mono ?_; (refine hD.below (belowS (c0 := .slice A nD cD) (c1 := .slice B nT cT) (c2 := .int .u64 tx) (c3 := .int .u64 nm) ?_); assumption); (refine hT.below (belowS (c0 := .slice A nD cD) (c1 := .slice B nT cT) (c2 := .int .u64 tx) (c3 := .int .u64 nm) ?_); assumption); rintro e w1 ⟨rfl, hb⟩)
      | (go_at_call 6; refine (least_any b0 A B nD cD nT cT pD fD tT fT lT xT tx nm _ ?_ ?_ (by omega) (by omega)).mono ?_; (refine hD.below (belowS (c0 := .slice A nD cD) (c1 := .slice B nT cT) (c2 := .int .u64 tx) (c3 := .int .u64 nm) ?_); assumption); (refine hT.below (belowS (c0 := .slice A nD cD) (c1 := .slice B nT cT) (c2 := .int .u64 tx) (c3 := .int .u64 nm) ?_); assumption); rintro e w1 ⟨rfl, hb⟩)
      | (go_at_call 4; refine (works_any _).mono ?_; rintro e w1 ⟨rfl, hb⟩))
  have hbb : Below w.heap.size w w1 := by
    refine belowS (c0 := .slice A nD cD) (c1 := .slice B nT cT) (c2 := .int .u64 tx) (c3 := .int .u64 nm) ?_
    assumption
  go_wp2_with fail
  go_ret
  exact ⟨rfl, hbb⟩
end Go.Proofs.Ytmncnnhggjefhaa
