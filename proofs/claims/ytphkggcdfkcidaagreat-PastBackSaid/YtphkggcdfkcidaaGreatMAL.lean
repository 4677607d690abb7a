/- The walk of the law package pentimentolaw26: Story: the versions of a row, and the undo pages that have them. -/
import Derived.Test.YtphkggcdfkcidaaGreatMAG
import Derived.Test.YtphkggcdfkcidaaGreatMAH
import Derived.Test.YtphkggcdfkcidaaGreatMAI
import Derived.Test.YtphkggcdfkcidaaGreatMAK
import Derived.Test.YtphkggcdfkcidaaGreatMAC
import Derived.Tactics
import Derived.WalkKit
import Derived.Deep.DeepCutAuto
import Derived.ProofKit
import Derived.SizedLaws
import Derived.SliceStrings
import Derived.Deep.Slices
import Derived.Test.YtphkggcdfkcidaaGreatMAA
import Derived.ChangeSlices
import Derived.Carry
import Derived.Below
import Derived.ChangeSame
import Derived.Laws.StructEq

namespace Go.Proofs.YtphkggcdfkcidaaGreat
open Go.RowKit Go.Conc

/-- A change's cells. -/
def stpCs (x : Sp.Stp) : List Value := [.int .u8 x.tx, .bool x.mark, str x.s]
def stpsC (l : List Sp.Stp) : List Value := l.flatMap stpCs
theorem stpsC_length (l : List Sp.Stp) : (stpsC l).length = l.length * 3 := by
  induction l with
  | nil => rfl
  | cons x l ih => simp only [stpsC, List.flatMap_cons, List.length_append] at *; rw [ih]; simp [stpCs, Nat.succ_mul]; omega
theorem stpsC_get (l : List Sp.Stp) : ∀ (i j : Nat) (h : i < l.length), j < 3 → (stpsC l)[i * 3 + j]? = (stpCs l[i])[j]? := by
  induction l with
  | nil => intro i j h; simp at h
  | cons x l ih =>
    intro i j h hj
    show (stpCs x ++ stpsC l)[i * 3 + j]? = _
    cases i with
    | zero => rw [List.getElem?_append_left (by simp [stpCs]; omega)]; simp
    | succ i =>
      rw [List.getElem?_append_right (by simp [stpCs, Nat.succ_mul]; omega)]
      have e : (i + 1) * 3 + j - (stpCs x).length = i * 3 + j := by simp [stpCs, Nat.succ_mul]; omega
      rw [e, ih i j (by simpa using h) hj]
      rfl
/-- The list of changes in memory. -/
abbrev StpsAt (G : Foot) (w : World) (A : Option Addr) (l : List Sp.Stp) : Prop := Reads G w 3 A l.length (stpsC l)
theorem StpsAt.cells {G : Foot} {w : World} {A : Option Addr} {l : List Sp.Stp} (h : StpsAt G w A l) {i : Nat} (hi : i < l.length) : ∃ b o, A = some ⟨b, o, none⟩ ∧ b < w.heap.size ∧ w.cell? ⟨b, o + i * 3, none⟩ = some (.int .u8 l[i].tx) ∧ w.cell? ⟨b, o + i * 3 + 1, none⟩ = some (.bool l[i].mark) ∧ w.cell? ⟨b, o + i * 3 + 2, none⟩ = some (str l[i].s) := by
  obtain ⟨b, o, rfl, _, hb, hc⟩ := h.2 (by omega)
  refine ⟨b, o, rfl, hb, ?_, ?_, ?_⟩
  · have := hc (i * 3 + 0) _ (by rw [stpsC_get l i 0 hi (by omega)]; rfl)
    simpa using this
  · have := hc (i * 3 + 1) _ (by rw [stpsC_get l i 1 hi (by omega)]; rfl)
    rw [← Nat.add_assoc] at this; exact this
  · have := hc (i * 3 + 2) _ (by rw [stpsC_get l i 2 hi (by omega)]; rfl)
    rw [← Nat.add_assoc] at this; exact this

theorem stUd_pad (key : Sp.Bs) (l : List Sp.Stp) (i : Nat) : (Sp.stUd key l i).was.pad = 0 := by
  unfold Sp.stUd
  split
  · rfl
  · show (Sp.stRow key l (i - 1)).pad = 0
    unfold Sp.stRow
    split <;> rfl
/-- The first k empty pages. -/
def pg0 (q : Nat) : List Value := [.int .u8 3, .int .u8 0, .int .u32 (q + 1 : Nat), .int .u64 0, .int .u32 0, .slice none 0 0]
def pg0s (k : Nat) : List Value := (List.range k).flatMap pg0
theorem pg0s_succ (k : Nat) : pg0s (k + 1) = pg0s k ++ pg0 k := by simp [pg0s, List.range_succ]
/-- A page of the story. -/
def stPgC (key : Sp.Bs) (l : List Sp.Stp) (m : Nat) (A : Nat → Option Addr) (c : Nat → Nat) (q : Nat) : List Value := [.int .u8 3, .int .u8 0, .int .u32 (q + 1 : Nat), .int .u64 0, .int .u32 0, .slice (A q) (Sp.stRows key l m q).length (c q)]
/-- Behind the first m changes. -/
def StoAt (base : Nat) (key : Sp.Bs) (l : List Sp.Stp) (bp : Nat) (vr : Value) (m : Nat) (wr : World) : Prop :=
  ∃ A c, Gen base vr m (stC (Sp.stRow key l) m) bp (stPgC key l m A c) A c (Sp.stRows key l m) wr
theorem gen0 {base : Nat} {wr : World} {key : Sp.Bs} {l : List Sp.Stp} {bp cp : Nat} (hb : base ≤ wr.heap.size) (h : wr.ownsRow base 53 6 (.slice (some ⟨bp, 0, none⟩) 6 cp) 6 (pg0s 6)) : StoAt base key l bp (.slice none 0 0) 0 wr := by
  have e0 : ∀ q, Sp.stRows key l 0 q = [] := fun q => by unfold Sp.stRows; rw [if_neg (by omega), if_neg (by omega)]; rfl
  refine ⟨fun _ => none, fun _ => 0, World.ownsRow_nil _ _ _ _, ?_, row_base h rfl, fun q _ => ?_, fun q q' _ _ _ g hg => ?_, hb⟩
  · rcases h.2 with ⟨h0, _⟩ | ⟨g, cap, cur, e, hbg, hh, hc6, _, hcs, htk⟩
    · cases h0
    · injection e with e1 _ e2
      injection e1 with e1
      injection e1 with e1
      subst e1
      refine ⟨cur, hh, by omega, fun q hq j hj => ?_⟩
      have h1 : (pg0s 6)[q * 6 + j]? = (pg0 q)[j]? := flat_get pg0 6 (fun _ => rfl) 6 q j hq hj
      have h2 : stPgC key l 0 (fun _ => none) (fun _ => 0) q = pg0 q := by unfold stPgC pg0; rw [e0]; rfl
      rw [h2, ← h1, ← htk, List.getElem?_take, if_pos (by omega)]
      simp
  · rw [e0]; exact World.ownsRow_nil _ _ _ _
  · simp [Value.ownBlock] at hg
theorem add_off (b o k : Nat) : (⟨b, o, none⟩ : Addr).add k = ⟨b, o + k, none⟩ := by cases k <;> simp [Addr.add]
/-- Behind 'if i > 0'. -/
def StoMid (base : Nat) (key : Sp.Bs) (l : List Sp.Stp) (bp : Nat) (vr : Value) (m : Nat) (x : Sp.Stp) (wc : World) (g11 g12 : Nat) (wx : World) : Prop :=
  Blk wx g11 37 #[str key, .bool x.mark, .int .u64 (x.txOf : Nat), .int .u32 0, .int .u16 0, str (x.s.take 60), .int .i64 0] ∧ Blk wx g12 48 (udCs (Sp.stUd key l m)).toArray ∧ StoAt base key l bp vr m wx ∧ Below wc.heap.size wc wx ∧ vr.ownBlock ≠ some g11
theorem stRows_len (key : Sp.Bs) (l : List Sp.Stp) (m : Nat) : (Sp.stRows key l m (m / 2)).length = m % 2 := by
  unfold Sp.stRows
  rcases Nat.mod_two_eq_zero_or_one m with h | h
  · rw [if_neg (by omega), if_neg (by omega), h]; rfl
  · rw [if_pos (by omega), if_neg (by omega), h]; rfl
theorem roll_size : (Tryz.prog.info? 26).map (·.size) = some 2 := by kernel_rfl
theorem page_size6 : (Tryz.prog.info? 53).map (·.size) = some 6 := by kernel_rfl
theorem row_info7 : (Tryz.prog.info? 37).map (fun i => (i.zero, i.size, i.bytes)) = some (some rwZV, 7, 64) := by kernel_rfl

set_option maxRecDepth 100000 in
set_option maxHeartbeats 8000000 in
theorem law_story (key : Sp.Bs) (hkey : 1 ≤ key.length ∧ key.length ≤ 48) (l : List Sp.Stp) (h1 : 1 ≤ l.length) (h10 : l.length ≤ 10) (htx : ∀ x ∈ l, x.tx < 256) (hs : ∀ x ∈ l, x.s.length ≤ 1000) (G : Foot) (A : Option Addr) (cap : Nat) (w : World) (hR : StpsAt G w A l) :
    Calls Tryz.prog 9 #[str key, .slice A l.length cap] w fun e w' => ∃ vr bp cp, e = .returned (.tuple #[vr, .slice (some ⟨bp, 0, none⟩) 6 cp]) ∧ StoAt w.heap.size key l bp vr l.length w' ∧ Below w.heap.size w w' := by
  have HR := Lib.hid hR
  have HTX := Lib.hid htx
  have HS := Lib.hid hs
  have HKEY := Lib.hid hkey
  have HEN := Lib.hid fun (i : Nat) (hi : i < l.length) (W : World) => ref21_encode (Sp.stUd key l i) (Sp.stUd_ok hkey h10 hi).1 (Sp.stUd_ok hkey h10 hi).2.1 (stUd_pad key l i) W
  obtain ⟨ip, hip, hp0, hp1, hp2⟩ := info_parts page_info
  obtain ⟨ir, hir, hr0, hr1, hr2⟩ := info_parts row_info7
  obtain ⟨is, his, hs0, hs1, hs2⟩ := info_parts str_info
  clear hR htx hs hkey
  go_enter Tryz.func9, Tryz.ntmps9
  go_wp2_with fail
  go_loopw [7, 8] (fun v i wr => ∃ k : Nat, k ≤ 6 ∧ i = .int .i64 k ∧ wr.ownsRow w.heap.size 53 6 v k (pg0s k) ∧ Below w.heap.size w wr) (fun _ i _ => 6 - (intOf i).toNat)
  case atStart => exact ⟨0, by omega, rfl, World.ownsRow_nil _ _ _ _, Below.refl _ _⟩
  case round =>
    obtain ⟨k, hk, rfl, hown, hb⟩ := hrel
    by_cases hlt : k < 6
    · have wr32 : IntKind.u32.wrap ((k : Int) + 1) = ((k + 1 : Nat) : Int) := by rw [IntKind.wrap_u32]; omega
      have hbs := hb.size
      go_wp2_with (at_builtin; refine wpList_append_own2 _ rfl _ _ 31 rfl w.heap.size 53 ip pgZero 6 48 Tryz.underlying31 hip hp0 hp1 hp2 rfl (by decide) _ k (pg0s k) rfl (hown.alloc _) ⟨wr.heap.size, 0, none⟩ 1 1 (pg0 k) rfl rfl (blk_news (cs := pg0 k) (Blk.new wr 53 (pg0 k).toArray)) (fun x hx => by simp [pg0] at hx; rcases hx with rfl | rfl | rfl | rfl | rfl | rfl <;> rfl) (by unfold maxLen; omega) (by omega) (by simp; omega) ?_; intro v' w2 q1 q2 q3)
      have hb2 := (hb.alloc hbs (.cells (pg0 k).toArray 53)).grown q2 (by simp; omega) (fun r e => row_base hown e)
      go_roundw
      case rel => exact ⟨k + 1, hlt, by go_num, by rw [pg0s_succ]; exact q1, hb2⟩
      case measure => simp [intOf]; omega
    · obtain rfl : k = 6 := by omega
      obtain ⟨bp, cp, rfl⟩ := own_form' hown (by omega)
      have HG := Lib.hid (gen0 (key := key) (l := l) hb.size hown)
      clear hown
      rw [show ((6 : Nat) : Int) = 6 from rfl]
      go_wp2_with fail
      go_loopw [6, 9] (fun v i wx => ∃ m : Nat, m ≤ l.length ∧ i = .int .i64 m ∧ StoAt w.heap.size key l bp v m wx ∧ Below w.heap.size w wx) (fun _ i _ => l.length - (intOf i).toNat)
      case atStart => exact ⟨0, by omega, rfl, HG.out, hb⟩
      case round =>
        clear HG hb
        obtain ⟨m, hm, rfl, hG, hb⟩ := hrel
        obtain ⟨wo, rfl⟩ : ∃ wo : World, wo = wr := ⟨_, rfl⟩
        have HG := Lib.hid hG
        clear hG
        by_cases hlt : m < l.length
        · obtain ⟨b, o, rfl, hbl, ct, cm, cs⟩ := StpsAt.cells (HR.out.below hb) hlt
          obtain ⟨x, hxe⟩ : ∃ x, x = l[m] := ⟨_, rfl⟩
          have hx8 := HTX.out _ (List.getElem_mem hlt)
          have hxs := HS.out _ (List.getElem_mem hlt)
          have HXE : Hid (l[m]? = some x) := Lib.hid (by rw [List.getElem?_eq_getElem hlt, hxe])
          rw [← hxe] at ct cm cs hx8 hxs
          clear hxe
          have HROW : Hid (Sp.stRow key l m = ⟨key, x.mark, x.txOf, m / 2 + 1, m % 2, x.s.take 60, 0⟩) := Lib.hid (by unfold Sp.stRow; rw [HXE.out])
          go_upto_if 38 with fail
          go_cut [10] from 25 to 98 (fun v wx => v = str (x.s.take 60) ∧ wx = wo)
          case first =>
            by_cases h60 : 60 < x.s.length
            · have e60 : decide ((60 : Int) < (x.s.length : Int)) = true := by rw [decide_eq_true_eq]; omega
              have hex : (⟨x.s.toArray⟩ : ByteArray).extract 0 60 = ⟨(x.s.take 60).toArray⟩ := by rw [str_extract, List.drop_zero]
              have HEX := Lib.hid hex
              clear hex
              go_wp2_with fail
              go_meet
              case rel => exact ⟨by rw [HEX.out], rfl⟩
            · have e60 : decide ((60 : Int) < (x.s.length : Int)) = false := by rw [decide_eq_false_iff_not]; omega
              have HTK := Lib.hid (List.take_of_length_le (l := x.s) (i := 60) (by omega))
              go_wp2_with fail
              go_meet
              case rel => exact ⟨by rw [HTK.out], rfl⟩
          case rest =>
            obtain ⟨rfl, rfl⟩ := hcut
            go_wp2_with fail
            have hS0 := Lib.hid (show wc.drew.cell? ⟨b, o + m * 3, none⟩ = some (.int .u8 x.tx) ∧ wc.drew.cell? ⟨b, o + m * 3 + 1, none⟩ = some (.bool x.mark) from ⟨ct, cm⟩)
            have hbw : b ≠ wc.drew.heap.size := Nat.ne_of_lt hbl
            have hb13 := (Below.refl wc.drew.heap.size wc.drew).alloc (Nat.le_refl _) (.cells rwZ 37)
            refine R_begin (fun W => W.cell? ⟨b, o + m * 3, none⟩ = some (.int .u8 x.tx) ∧ W.cell? ⟨b, o + m * 3 + 1, none⟩ = some (.bool x.mark)) (fun _ => false) rfl ?_
            refine R_take 0 41 (v := ?_) rfl rfl (by rfl) (by kernel_rfl) (fun _ _ _ h => h) hS0.out ?_ ?_
            rotate_left
            · intro w hSw; (try dsimp only at hSw); go_simp; (try with_reducible rfl)
            simp only [List.setIfInBounds_toArray, List.set_cons_zero, List.set_cons_succ]
            refine R_take 1 42 (v := ?_) rfl rfl (by rfl) (by kernel_rfl) (fun _ _ _ h => h) hS0.out ?_ ?_
            rotate_left
            · intro w hSw; (try dsimp only at hSw); go_simp; (try with_reducible rfl)
            simp only [List.setIfInBounds_toArray, List.set_cons_zero, List.set_cons_succ]
            refine R_take 2 43 (v := ?_) rfl rfl (by rfl) (by kernel_rfl) (fun _ _ _ h => h) hS0.out ?_ ?_
            rotate_left
            · intro w hSw; (try dsimp only at hSw); go_simp; (try with_reducible rfl)
            simp only [List.setIfInBounds_toArray, List.set_cons_zero, List.set_cons_succ]
            refine R_take 3 44 (v := ?_) rfl rfl (by rfl) (by kernel_rfl) (fun _ _ _ h => h) hS0.out ?_ ?_
            rotate_left
            · intro w hSw; (try dsimp only at hSw); go_simp; (try with_reducible rfl)
            simp only [List.setIfInBounds_toArray, List.set_cons_zero, List.set_cons_succ]
            refine R_take 4 45 (v := ?_) rfl rfl (by rfl) (by kernel_rfl) (fun _ _ _ h => h) hS0.out ?_ ?_
            rotate_left
            · intro w hSw; (try dsimp only at hSw); go_simp; (try with_reducible rfl)
            simp only [List.setIfInBounds_toArray, List.set_cons_zero, List.set_cons_succ]
            refine R_take 5 46 (v := ?_) rfl rfl (by rfl) (by kernel_rfl) (fun _ _ _ h => h) hS0.out ?_ ?_
            rotate_left
            · intro w hSw; (try dsimp only at hSw); go_simp; (try with_reducible rfl)
            simp only [List.setIfInBounds_toArray, List.set_cons_zero, List.set_cons_succ]
            refine R_take 6 47 (v := ?_) rfl rfl (by rfl) (by kernel_rfl) (fun _ _ _ h => h) hS0.out ?_ ?_
            rotate_left
            · intro w hSw; (try dsimp only at hSw); go_simp; (try with_reducible rfl)
            simp only [List.setIfInBounds_toArray, List.set_cons_zero, List.set_cons_succ]
            refine R_take 7 48 (v := ?_) rfl rfl (by rfl) (by kernel_rfl) (fun _ _ _ h => h) hS0.out ?_ ?_
            rotate_left
            · intro w hSw; (try dsimp only at hSw); go_simp; (try with_reducible rfl)
            simp only [List.setIfInBounds_toArray, List.set_cons_zero, List.set_cons_succ]
            refine R_take 8 49 (v := ?_) rfl rfl (by rfl) (by kernel_rfl) (fun _ _ _ h => h) hS0.out ?_ ?_
            rotate_left
            · intro w hSw; (try dsimp only at hSw); go_simp; (try with_reducible rfl)
            simp only [List.setIfInBounds_toArray, List.set_cons_zero, List.set_cons_succ]
            refine R_take 9 50 (v := ?_) rfl rfl (by rfl) (by kernel_rfl) (fun _ _ _ h => h) hS0.out ?_ ?_
            rotate_left
            · intro w hSw; (try dsimp only at hSw); go_simp; (try with_reducible rfl)
            simp only [List.setIfInBounds_toArray, List.set_cons_zero, List.set_cons_succ]
            refine R_take 10 51 (v := ?_) rfl rfl (by rfl) (by kernel_rfl) (fun _ _ _ h => h) hS0.out ?_ ?_
            rotate_left
            · intro w hSw; (try dsimp only at hSw); go_simp; (try with_reducible rfl)
            simp only [List.setIfInBounds_toArray, List.set_cons_zero, List.set_cons_succ]
            refine R_take 11 52 (v := .int .u8 ((x.tx % 20 : Nat) : Int)) rfl rfl (by rfl) (by kernel_rfl) (fun _ _ _ h => h) hS0.out ?_ ?_
            · intro w hSw; go_simp; exact Int.tmod_eq_emod_of_nonneg (by omega)
            simp only [List.setIfInBounds_toArray, List.set_cons_zero, List.set_cons_succ]
            refine R_take 12 53 (v := .int .u64 ((x.tx % 20 : Nat) : Int)) rfl rfl (by rfl) (by kernel_rfl) (fun _ _ _ h => h) hS0.out ?_ ?_
            · intro w hSw; go_simp; rw [IntKind.wrap_u64]; omega
            simp only [List.setIfInBounds_toArray, List.set_cons_zero, List.set_cons_succ]
            refine R_take 13 54 (v := .int .u64 (x.txOf : Nat)) rfl rfl (by rfl) (by kernel_rfl) (fun _ _ _ h => h) hS0.out ?_ ?_
            · intro w hSw; go_simp; rw [IntKind.wrap_u64]; unfold Sp.Stp.txOf; omega
            simp only [List.setIfInBounds_toArray, List.set_cons_zero, List.set_cons_succ]
            refine R_take 14 55 (v := ?_) rfl rfl (by rfl) (by kernel_rfl) (fun _ _ _ h => h) hS0.out ?_ ?_
            rotate_left
            · intro w hSw; (try dsimp only at hSw); go_simp; (try with_reducible rfl)
            simp only [List.setIfInBounds_toArray, List.set_cons_zero, List.set_cons_succ]
            refine R_take 15 56 (v := ?_) rfl rfl (by rfl) (by kernel_rfl) (fun _ _ _ h => h) hS0.out ?_ ?_
            rotate_left
            · intro w hSw; (try dsimp only at hSw); go_simp; (try with_reducible rfl)
            simp only [List.setIfInBounds_toArray, List.set_cons_zero, List.set_cons_succ]
            refine R_run 16 11 (v := ptr wc.drew.heap.size) (w' := wc.drew.alloc (.cells rwZ 37)) rfl rfl (by rfl) (by kernel_rfl) ?_ (fun _ => ⟨lv_below hb13 hbl hS0.out.1, lv_below hb13 hbl hS0.out.2⟩) ?_
            · first | (go_simp; done) | (go_simp; rfl)
            simp only [List.setIfInBounds_toArray, List.set_cons_zero, List.set_cons_succ]
            have hn13 := Blk.new wc.drew 37 rwZ
            refine R_store 17 (n := .skip) (w' := (wc.drew.alloc (.cells rwZ 37)).setRow wc.heap.size #[str key, .bool x.mark, .int .u64 (x.txOf : Nat), .int .u32 0, .int .u16 0, str (x.s.take 60), .int .i64 0]) rfl rfl (by rfl) (by kernel_rfl) ?_ (.inl rfl) (fun _ => ⟨(World.cell?_of_block (heap_setRow_other _ _ _ _ hbw)).trans (lv_below hb13 hbl hS0.out.1), (World.cell?_of_block (heap_setRow_other _ _ _ _ hbw)).trans (lv_below hb13 hbl hS0.out.2)⟩) ?_
            · exact run_op_store _ _ _ _ _ rfl rfl rfl (row_store hn13 (row_one _ _ _ _ _ _ _))
            refine R_done (by kernel_rfl) ?_ _
            rename_i K9 hK9
            refine hK9 _ _ ?_
            clear hK9
            have H11 : Blk ((wc.drew.alloc (.cells rwZ 37)).setRow wc.heap.size #[str key, .bool x.mark, .int .u64 (x.txOf : Nat), .int .u32 0, .int .u16 0, str (x.s.take 60), .int .i64 0]) wc.heap.size 37 #[str key, .bool x.mark, .int .u64 (x.txOf : Nat), .int .u32 0, .int .u16 0, str (x.s.take 60), .int .i64 0] := hn13.setRow _
            have hb1 : Below wc.heap.size wc ((wc.drew.alloc (.cells rwZ 37)).setRow wc.heap.size #[str key, .bool x.mark, .int .u64 (x.txOf : Nat), .int .u32 0, .int .u16 0, str (x.s.take 60), .int .i64 0]) := below_setRow (show Below wc.heap.size wc (wc.drew.alloc (.cells rwZ 37)) from ⟨hb13.os, hb13.tape, hb13.output, hb13.size, hb13.block⟩) (Nat.le_refl _) _
            rw [show wc.drew.heap.size = wc.heap.size from rfl]
            generalize hw1 : World.setRow _ wc.heap.size _ = w1 at H11 hb1 ⊢
            obtain ⟨g11, hg11⟩ : ∃ g, g = wc.heap.size := ⟨_, rfl⟩
            rw [← hg11] at H11 ⊢
            have hB11 : wc.heap.size ≤ g11 := by omega
            have hv11 : u6.ownBlock ≠ some g11 := fun e => by
              obtain ⟨A, c, h⟩ := HG.out
              have := (h.rows.lt g11 e).2
              omega
            clear hw1 hg11 hS0 hb13 hn13 ct cm cs
            have HG1 : Hid (StoAt w.heap.size key l bp u6 m w1) := Lib.hid (by
              obtain ⟨A, c, h⟩ := HG.out
              exact ⟨A, c, h.below hb1⟩)
            have c2 := H11.cell 2
            simp only [List.getElem?_toArray, List.getElem?_cons_succ, List.getElem?_cons_zero] at c2
            have H12 := Blk.new w1 48 #[.int .u8 1, .int .u64 (x.txOf : Nat), .int .u32 0, .int .u16 0, str key, str [], .bool false, .int .u64 0, .int .u32 0, .int .u16 0, str [], .int .i64 0]
            have H11' := H11.alloc (.cells #[.int .u8 1, .int .u64 (x.txOf : Nat), .int .u32 0, .int .u16 0, str key, str [], .bool false, .int .u64 0, .int .u32 0, .int .u16 0, str [], .int .i64 0] 48)
            have hl11 := H11.lt
            have hb2 := hb1.alloc hb1.size (.cells #[.int .u8 1, .int .u64 (x.txOf : Nat), .int .u32 0, .int .u16 0, str key, str [], .bool false, .int .u64 0, .int .u32 0, .int .u16 0, str [], .int .i64 0] 48)
            have hbs1 := hb1.size
            clear H11
            go_upto_if 62 with fail
            generalize hw2 : World.alloc w1 _ = w2 at H11' H12 hb2 ⊢
            obtain ⟨g12, hg12⟩ : ∃ g, g = w1.heap.size := ⟨_, rfl⟩
            rw [← hg12] at H12 ⊢
            have n112 : g11 ≠ g12 := by omega
            have hB12 : wc.heap.size ≤ g12 := by omega
            have hBw : ∀ b, b < w1.heap.size → w2.heap[b]? = w1.heap[b]? := fun b hb => by rw [← hw2]; exact Below.heap_alloc _ _ _ hb
            have HG2 : Hid (StoAt w.heap.size key l bp u6 m w2) := Lib.hid (by
              obtain ⟨A, c, h⟩ := HG1.out
              exact ⟨A, c, h.keep (by rw [← hw2]; simp) hBw⟩)
            have H11 := Lib.hid H11'
            replace H12 := Lib.hid H12
            clear hw2 hg12 HG1 hb1 H11' hl11 hbs1 c2 hBw HG
            go_cut [12] from 25 to 98 (fun v wx => v = ptr g12 ∧ StoMid w.heap.size key l bp u6 m x wc g11 g12 wx)
            case first =>
              rcases Nat.eq_zero_or_pos m with h0 | h0
              · subst h0
                have e0 : (udCs (Sp.stUd key l 0)).toArray = #[.int .u8 1, .int .u64 (x.txOf : Nat), .int .u32 0, .int .u16 0, str key, str [], .bool false, .int .u64 0, .int .u32 0, .int .u16 0, str [], .int .i64 0] := by
                  have : Sp.stUd key l 0 = ⟨1, (Sp.stRow key l 0).tx, 0, 0, key, .zero⟩ := rfl
                  rw [this, HROW.out]; rfl
                have HE0 := Lib.hid e0
                clear e0
                go_wp2_with fail
                go_meet
                case rel => exact ⟨rfl, H11.out, by rw [HE0.out]; exact H12.out, HG2.out, hb2, hv11⟩
              · obtain ⟨j, rfl⟩ : ∃ j, m = j + 1 := ⟨m - 1, by omega⟩
                obtain ⟨A2, c2, hg2⟩ := HG2.out
                obtain ⟨gv, cv, rfl⟩ := own_form' hg2.rows (by omega)
                have hgv : gv ≠ g12 := fun e => by
                  obtain ⟨cs', h5⟩ := ownsRow_heap hg2.rows (g := gv) rfl
                  have h6 := H12.out
                  unfold Blk at h6
                  rw [e, h6] at h5; injection h5 with h5; injection h5 with _ h5; exact absurd h5 (by decide)
                have hcl : ∀ (k : Nat) (v : Value), (rwCs (Sp.stRow key l j))[k]? = some v → (w2.setCell ⟨g12, 0, none⟩ (.int .u8 2)).cell? ((⟨gv, j * 7, none⟩ : Addr).add k) = some v := fun k v hv => by
                  have hk : k < 7 := (List.getElem?_eq_some_iff.1 hv).1
                  have h1 := hg2.rows.cells (g := gv) rfl (j * 7 + k) v (by rw [stC_get _ (by omega) hk]; exact hv)
                  rw [add_lit] at h1; rw [add_off]
                  exact (World.cell?_of_block (a := ⟨gv, j * 7 + k, none⟩) (Below.heap_setCell w2 ⟨g12, 0, none⟩ (.int .u8 2) gv hgv)).trans h1
                have HCL := Lib.hid hcl
                have c12 := H12.out.cell 0
                have f12 := H12.out.frozen 0
                simp only [List.getElem?_toArray, List.getElem?_cons_zero] at c12
                clear hcl
                have H12b := H12.out.set_ 0 (.int .u8 2)
                simp only [List.setIfInBounds_toArray, List.set_cons_zero] at H12b
                go_wp2_with (first
                  | refine wpList_load_part rfl _ _ rfl ⟨gv, j * 7, none⟩ rfl (rwCs (Sp.stRow key l j)) _ HCL.out Tryz.underlying37 rfl row_size ?_
                  | refine wpList_store_part rfl _ _ _ rfl g12 5 (rwCs (Sp.stRow key l j)).toArray rfl rfl _ _ H12b row_size (by show 5 + 7 ≤ 12; omega) (row_one _ _ _ _ _ _ _) ?_)
                have e1 : partRow #[.int .u8 2, .int .u64 (x.txOf : Nat), .int .u32 0, .int .u16 0, str key, str [], .bool false, .int .u64 0, .int .u32 0, .int .u16 0, str [], .int .i64 0] 5 (rwCs (Sp.stRow key l j)) = (udCs (Sp.stUd key l (j + 1))).toArray := by
                  have : Sp.stUd key l (j + 1) = ⟨2, (Sp.stRow key l (j + 1)).tx, 0, 0, key, Sp.stRow key l j⟩ := rfl
                  rw [this, HROW.out]; rfl
                have q12 : Blk ((w2.setCell ⟨g12, 0, none⟩ (.int .u8 2)).setRow g12 (partRow #[.int .u8 2, .int .u64 (x.txOf : Nat), .int .u32 0, .int .u16 0, str key, str [], .bool false, .int .u64 0, .int .u32 0, .int .u16 0, str [], .int .i64 0] 5 (rwCs (Sp.stRow key l j)))) g12 48 (udCs (Sp.stUd key l (j + 1))).toArray := Eq.mp (congrArg (fun cs => Blk ((w2.setCell ⟨g12, 0, none⟩ (.int .u8 2)).setRow g12 (partRow #[.int .u8 2, .int .u64 (x.txOf : Nat), .int .u32 0, .int .u16 0, str key, str [], .bool false, .int .u64 0, .int .u32 0, .int .u16 0, str [], .int .i64 0] 5 (rwCs (Sp.stRow key l j)))) g12 48 cs) e1) (H12b.setRow _)
                have q11 := (H11.out.far (p := ⟨g12, 0, none⟩) n112 (.int .u8 2)).keep (heap_setRow_other (w2.setCell ⟨g12, 0, none⟩ (.int .u8 2)) g12 g11 (partRow #[.int .u8 2, .int .u64 (x.txOf : Nat), .int .u32 0, .int .u16 0, str key, str [], .bool false, .int .u64 0, .int .u32 0, .int .u16 0, str [], .int .i64 0] 5 (rwCs (Sp.stRow key l j))) n112)
                have qb := below_setRow (hb2.setCell (p := ⟨g12, 0, none⟩) hB12 (.int .u8 2)) hB12 (partRow #[.int .u8 2, .int .u64 (x.txOf : Nat), .int .u32 0, .int .u16 0, str key, str [], .bool false, .int .u64 0, .int .u32 0, .int .u16 0, str [], .int .i64 0] 5 (rwCs (Sp.stRow key l j)))
                have qg := hg2.farT (w' := ((w2.setCell ⟨g12, 0, none⟩ (.int .u8 2)).setRow g12 (partRow #[.int .u8 2, .int .u64 (x.txOf : Nat), .int .u32 0, .int .u16 0, str key, str [], .bool false, .int .u64 0, .int .u32 0, .int .u16 0, str [], .int .i64 0] 5 (rwCs (Sp.stRow key l j))))) H12.out (by decide) (by decide) (by decide) (by simp [World.setCell]) (fun b hb => (heap_setRow_other _ _ _ _ hb).trans (Below.heap_setCell _ _ _ b hb))
                have HQ : Hid (StoMid w.heap.size key l bp (.slice (some ⟨gv, 0, none⟩) (j + 1) cv) (j + 1) x wc g11 g12 ((w2.setCell ⟨g12, 0, none⟩ (.int .u8 2)).setRow g12 (partRow #[.int .u8 2, .int .u64 (x.txOf : Nat), .int .u32 0, .int .u16 0, str key, str [], .bool false, .int .u64 0, .int .u32 0, .int .u16 0, str [], .int .i64 0] 5 (rwCs (Sp.stRow key l j))))) := Lib.hid ⟨q11, q12, ⟨A2, c2, qg⟩, qb, hv11⟩
                clear e1 q12 q11 qb qg hg2 H12b
                go_meet
                case rel => exact ⟨rfl, HQ.out⟩
            case rest =>
              obtain ⟨rfl, hmid⟩ := hcut
              obtain ⟨h11, h12, hg, hbm, hv⟩ := hmid
              have hbr := hb.trans (hbm.mono hb.size)
              have HB11 : Hid (w.heap.size ≤ g11) := Lib.hid (Nat.le_trans hb.size hB11)
              obtain ⟨A3, c3, hg3⟩ := hg
              have HG3 := Lib.hid hg3
              have H11 := Lib.hid h11
              have H12 := Lib.hid h12
              have hq6 : m / 2 < 6 := by omega
              have hq5 : decide ((m : Int) / 2 < 6) = true := by rw [decide_eq_true_eq]; omega
              obtain ⟨cur, hpb, hcur, hpc⟩ := hg3.pages
              have HPB := Lib.hid hpb
              have HPC := Lib.hid fun (j : Nat) (hj : j < 6) => hpc (m / 2) hq6 j hj
              obtain ⟨pid, hpid⟩ : ∃ p, p = m / 2 + 1 := ⟨_, rfl⟩
              have HPID := Lib.hid hpid
              clear hpid
              have hlr : (Sp.stRows key l m (m / 2)).length = m % 2 := stRows_len key l m
              have p0 : wc.cell? ⟨bp, m / 2 * 6, none⟩ = some (.int .u8 3) := (HPB.out.cell _).trans (HPC.out 0 (by omega))
              have p1 : wc.cell? ⟨bp, m / 2 * 6 + 1, none⟩ = some (.int .u8 0) := (HPB.out.cell _).trans (HPC.out 1 (by omega))
              have p2 : wc.cell? ⟨bp, m / 2 * 6 + 2, none⟩ = some (.int .u32 (pid : Nat)) := by rw [HPID.out]; exact (HPB.out.cell _).trans (HPC.out 2 (by omega))
              have p3 : wc.cell? ⟨bp, m / 2 * 6 + 3, none⟩ = some (.int .u64 0) := (HPB.out.cell _).trans (HPC.out 3 (by omega))
              have p4 : wc.cell? ⟨bp, m / 2 * 6 + 4, none⟩ = some (.int .u32 0) := (HPB.out.cell _).trans (HPC.out 4 (by omega))
              have p5 : wc.cell? ⟨bp, m / 2 * 6 + 5, none⟩ = some (.slice (A3 (m / 2)) (Sp.stRows key l m (m / 2)).length (c3 (m / 2))) := (HPB.out.cell _).trans (HPC.out 5 (by omega))
              have wr16 : IntKind.u16.wrap ((Sp.stRows key l m (m / 2)).length : Int) = ((Sp.stRows key l m (m / 2)).length : Int) := by rw [IntKind.wrap_u16]; omega
              have HLR := Lib.hid hlr
              have hl11 := H11.out.lt
              clear hg3 h11 h12 hbm hpb hpc hlr
              have h13 := Blk.new wc 53 #[.int .u8 3, .int .u8 0, .int .u32 (pid : Nat), .int .u64 0, .int .u32 0, .slice (A3 (m / 2)) (Sp.stRows key l m (m / 2)).length (c3 (m / 2))]
              have q11 := H11.out.alloc (.cells #[.int .u8 3, .int .u8 0, .int .u32 (pid : Nat), .int .u64 0, .int .u32 0, .slice (A3 (m / 2)) (Sp.stRows key l m (m / 2)).length (c3 (m / 2))] 53)
              have q12 := H12.out.alloc (.cells #[.int .u8 3, .int .u8 0, .int .u32 (pid : Nat), .int .u64 0, .int .u32 0, .slice (A3 (m / 2)) (Sp.stRows key l m (m / 2)).length (c3 (m / 2))] 53)
              have q13 := h13.keep (heap_setRow_other (wc.alloc (.cells #[.int .u8 3, .int .u8 0, .int .u32 (pid : Nat), .int .u64 0, .int .u32 0, .slice (A3 (m / 2)) (Sp.stRows key l m (m / 2)).length (c3 (m / 2))] 53)) g11 wc.heap.size (partRow #[str key, .bool x.mark, .int .u64 (x.txOf : Nat), .int .u32 0, .int .u16 0, str (x.s.take 60), .int .i64 0] 3 [.int .u32 (pid : Nat), .int .u16 (Sp.stRows key l m (m / 2)).length]) (Ne.symm (Nat.ne_of_lt hl11)))
              have qg := (HG3.out.below ((Below.refl wc.heap.size wc).alloc (Nat.le_refl _) (.cells #[.int .u8 3, .int .u8 0, .int .u32 (pid : Nat), .int .u64 0, .int .u32 0, .slice (A3 (m / 2)) (Sp.stRows key l m (m / 2)).length (c3 (m / 2))] 53))).far (w' := (wc.alloc (.cells #[.int .u8 3, .int .u8 0, .int .u32 (pid : Nat), .int .u64 0, .int .u32 0, .slice (A3 (m / 2)) (Sp.stRows key l m (m / 2)).length (c3 (m / 2))] 53)).setRow g11 (partRow #[str key, .bool x.mark, .int .u64 (x.txOf : Nat), .int .u32 0, .int .u16 0, str (x.s.take 60), .int .i64 0] 3 [.int .u32 (pid : Nat), .int .u16 (Sp.stRows key l m (m / 2)).length])) (g := g11) (by simp) (fun b hb => heap_setRow_other _ _ _ _ hb) hv (HPB.out.ne_ H11.out (by decide)) (fun q hq e => by
                obtain ⟨cs', h5⟩ := ownsRow_heap (HG3.out.own q hq) e
                exact (Blk.of_heap h5).ne_ H11.out (by decide) rfl)
              have hB11 : w.heap.size ≤ g11 := HB11.out
              have qb := below_setRow (hbr.alloc hbr.size (.cells #[.int .u8 3, .int .u8 0, .int .u32 (pid : Nat), .int .u64 0, .int .u32 0, .slice (A3 (m / 2)) (Sp.stRows key l m (m / 2)).length (c3 (m / 2))] 53)) hB11 (partRow #[str key, .bool x.mark, .int .u64 (x.txOf : Nat), .int .u32 0, .int .u16 0, str (x.s.take 60), .int .i64 0] 3 [.int .u32 (pid : Nat), .int .u16 (Sp.stRows key l m (m / 2)).length])
              have q12b := q12.keep (heap_setRow_other (wc.alloc (.cells #[.int .u8 3, .int .u8 0, .int .u32 (pid : Nat), .int .u64 0, .int .u32 0, .slice (A3 (m / 2)) (Sp.stRows key l m (m / 2)).length (c3 (m / 2))] 53)) g11 g12 (partRow #[str key, .bool x.mark, .int .u64 (x.txOf : Nat), .int .u32 0, .int .u16 0, str (x.s.take 60), .int .i64 0] 3 [.int .u32 (pid : Nat), .int .u16 (Sp.stRows key l m (m / 2)).length]) (Ne.symm n112))
              have e11 : partRow #[str key, .bool x.mark, .int .u64 (x.txOf : Nat), .int .u32 0, .int .u16 0, str (x.s.take 60), .int .i64 0] 3 [.int .u32 (pid : Nat), .int .u16 (Sp.stRows key l m (m / 2)).length] = (rwCs (Sp.stRow key l m)).toArray := by
                rw [HROW.out, HPID.out, HLR.out]; rfl
              have q11b : Blk ((wc.alloc (.cells #[.int .u8 3, .int .u8 0, .int .u32 (pid : Nat), .int .u64 0, .int .u32 0, .slice (A3 (m / 2)) (Sp.stRows key l m (m / 2)).length (c3 (m / 2))] 53)).setRow g11 (partRow #[str key, .bool x.mark, .int .u64 (x.txOf : Nat), .int .u32 0, .int .u16 0, str (x.s.take 60), .int .i64 0] 3 [.int .u32 (pid : Nat), .int .u16 (Sp.stRows key l m (m / 2)).length])) g11 37 (rwCs (Sp.stRow key l m)).toArray := Eq.mp (congrArg (fun cs => Blk ((wc.alloc (.cells #[.int .u8 3, .int .u8 0, .int .u32 (pid : Nat), .int .u64 0, .int .u32 0, .slice (A3 (m / 2)) (Sp.stRows key l m (m / 2)).length (c3 (m / 2))] 53)).setRow g11 (partRow #[str key, .bool x.mark, .int .u64 (x.txOf : Nat), .int .u32 0, .int .u16 0, str (x.s.take 60), .int .i64 0] 3 [.int .u32 (pid : Nat), .int .u16 (Sp.stRows key l m (m / 2)).length])) g11 37 cs) e11) (q11.setRow _)
              go_upto_region 20 with (refine wpList_store_part rfl _ _ _ rfl g11 3 #[.int .u32 (pid : Nat), .int .u16 (Sp.stRows key l m (m / 2)).length] rfl rfl _ _ q11 roll_size (by show 3 + 2 ≤ 7; omega) (by simp [Value.oneCell']) ?_)
              generalize hw4 : World.setRow _ g11 _ = w4 at q13 qg qb q12b q11b ⊢
              obtain ⟨g13, hg13⟩ : ∃ g, g = wc.heap.size := ⟨_, rfl⟩
              rw [← hg13] at q13 h13 ⊢
              have n1311 : g13 ≠ g11 := by omega
              have n1312 : g13 ≠ g12 := fun e => by have := H12.out.lt; omega
              have hBg13 : w.heap.size ≤ g13 := by have := hbr.size; omega
              have HG4 := Lib.hid qg
              have G11 := Lib.hid q11b
              have hbw4 := qb
              have hpne : bp ≠ g13 := fun e => by have := HPB.out.lt; omega
              have hS := Lib.hid (show w4.drew.cell? ⟨g13, 5, none⟩ = some (.slice (A3 (m / 2)) (Sp.stRows key l m (m / 2)).length (c3 (m / 2))) ∧ Blk w4.drew g12 48 (udCs (Sp.stUd key l m)).toArray from ⟨q13.drew.cell 5, q12b.drew⟩)
              have G13 := Lib.hid q13
              have HEM := Lib.hid (HEN.out m hlt w4.drew)
              clear q11 q12 q13 qg qb q12b q11b e11 hw4 h13 p0 p1 p2 p3 p4 p5 HPB HPC hcur H11 H12 HG3 hl11 hbr hg13 hv
              simp only [Act.put]
              refine R_begin (fun W => W.cell? ⟨g13, 5, none⟩ = some (.slice (A3 (m / 2)) (Sp.stRows key l m (m / 2)).length (c3 (m / 2))) ∧ Blk W g12 48 (udCs (Sp.stUd key l m)).toArray) (fun i => i == 7) rfl ?_
              refine R_take 0 83 (v := ?_) rfl rfl (by rfl) (by kernel_rfl) (fun _ _ _ h => h) hS.out ?_ ?_
              rotate_left
              · intro w hSw; (try dsimp only at hSw); go_simp; (try with_reducible rfl)
              simp only [List.setIfInBounds_toArray, List.set_cons_zero, List.set_cons_succ]
              refine R_take 1 84 (v := ?_) rfl rfl (by rfl) (by kernel_rfl) (fun _ _ _ h => h) hS.out ?_ ?_
              rotate_left
              · intro w hSw; (try dsimp only at hSw); go_simp; (try with_reducible rfl)
              simp only [List.setIfInBounds_toArray, List.set_cons_zero, List.set_cons_succ]
              refine R_take 2 85 (v := udV (Sp.stUd key l m)) rfl rfl (by rfl) (by kernel_rfl) (fun _ _ _ h => h) hS.out ?_ ?_
              · intro w hSw
                exact run_op_load _ _ _ rfl rfl (run_loadVar_row w g12 _ _ _ _ _ hSw.2 Tryz.underlying48 rfl rfl)
              simp only [List.setIfInBounds_toArray, List.set_cons_zero, List.set_cons_succ]
              refine R_call 3 86 (w' := w4.drew) rfl rfl (by rfl) (by kernel_rfl) ?_ HEM.out ?_
              · go_simp
              rintro e v1 ⟨rfl, hbv1⟩
              have hBv1 : Below w4.heap.size w4 v1 := ⟨hbv1.os, hbv1.tape, hbv1.output, hbv1.size, hbv1.block⟩
              have hsv1 : v1.cell? ⟨g13, 5, none⟩ = some (.slice (A3 (m / 2)) (Sp.stRows key l m (m / 2)).length (c3 (m / 2))) ∧ Blk v1 g12 48 (udCs (Sp.stUd key l m)).toArray := ⟨(G13.out.below hBv1 G13.out.lt).cell 5, hS.out.2.below hbv1 hS.out.2.lt⟩
              refine ⟨_, rfl, fun _ => hsv1, ?_⟩
              simp only [List.setIfInBounds_toArray, List.set_cons_zero, List.set_cons_succ]
              have hG5 := HG4.out.below hBv1
              have hb5 := (Below.refl v1.heap.size v1).alloc (Nat.le_refl _) (.cells #[str (Sp.stUd key l m).bytes] 9)
              have hl13 := (G13.out.below hBv1 G13.out.lt).lt
              refine R_run 4 87 (v := .slice (some ⟨v1.heap.size, 0, none⟩) 1 1) (w' := v1.alloc (.cells #[str (Sp.stUd key l m).bytes] 9)) rfl rfl (by rfl) (by kernel_rfl) ?_ (fun _ => ⟨lv_below hb5 hl13 hsv1.1, hsv1.2.below hb5 hsv1.2.lt⟩) ?_
              · go_simp
              simp only [List.setIfInBounds_toArray, List.set_cons_zero, List.set_cons_succ]
              have hG6 := hG5.below hb5
              have hN6 := Blk.new v1 9 #[str (Sp.stUd key l m).bytes]
              have k13 := (G13.out.below hBv1 G13.out.lt).alloc (.cells #[str (Sp.stUd key l m).bytes] 9)
              have k11 := (G11.out.below hBv1 G11.out.lt).alloc (.cells #[str (Sp.stUd key l m).bytes] 9)
              have k12 := hsv1.2.alloc (.cells #[str (Sp.stUd key l m).bytes] 9)
              have kb := (hbw4.trans (hBv1.mono hbw4.size)).trans (hb5.mono (Nat.le_trans hbw4.size hBv1.size))
              generalize hw6 : World.alloc v1 _ = w6 at hG6 hN6 k13 k11 k12 kb ⊢
              obtain ⟨g6, hg6⟩ : ∃ g, g = v1.heap.size := ⟨_, rfl⟩
              rw [← hg6] at hN6 ⊢
              have hown6 := hG6.own (m / 2) hq6
              have hnl : (Sp.stRows key l m (m / 2)).length ≤ 1 := by rw [HLR.out]; omega
              have hstr : ∀ (g : Nat) (t : TypeId) (cs : Array Value), Blk w6 g t cs → t ≠ 9 → some g ≠ (Value.slice (A3 (m / 2)) (Sp.stRows key l m (m / 2)).length (c3 (m / 2))).ownBlock := fun g t cs hb hne e => by
                obtain ⟨cs', h5⟩ := ownsRow_heap hown6 e.symm
                exact (Blk.of_heap h5).ne_ hb (fun e => hne e.symm) rfl
              clear hw6 hg6 hb5 hG5 hl13 hsv1 hbv1 hBv1 hS HG4 G11 G13 hbw4 HEM
              refine R_step 5 rfl (by rfl) (by kernel_rfl) ?_
              refine wp_append_own2 _ _ _ _ rfl w.heap.size 9 is (.string ByteArray.empty) 1 16 Tryz.underlying51 his hs0 hs1 hs2 rfl (by decide) _ _ _ rfl hown6 ⟨g6, 0, none⟩ 1 1 [str (Sp.stUd key l m).bytes] rfl rfl (blk_news hN6) (fun x hx => by simp at hx; rw [hx]; rfl) (by unfold maxLen; omega) (by omega) kb.size ?_
              intro v' w7 q1 q2 q3
              obtain ⟨g, c', rfl⟩ := own_form' q1 (by omega)
              have hG7 := hG6.app hq6 q1 q2 q3
              replace k13 := k13.grown q2 (hstr _ _ _ k13 (by decide))
              replace k11 := k11.grown q2 (hstr _ _ _ k11 (by decide))
              replace k12 := k12.grown q2 (hstr _ _ _ k12 (by decide))
              have kb7 := kb.grown q2 kb.size (fun k e => row_base hown6 e)
              have hS7 : w7.cell? ⟨g13, 5, none⟩ = some (.slice (A3 (m / 2)) (Sp.stRows key l m (m / 2)).length (c3 (m / 2))) ∧ Blk w7 g12 48 (udCs (Sp.stUd key l m)).toArray := ⟨k13.cell 5, k12⟩
              clear q1 q2 q3 hown6 hstr hG6 hN6 kb
              refine ⟨fun _ => hS7, ?_⟩
              refine R_put 88 rfl ?_
              simp only [List.setIfInBounds_toArray, List.set_cons_zero, List.set_cons_succ]
              refine R_run 6 89 (v := .pointer (some ⟨g13, 5, none⟩)) (w' := w7) rfl rfl (by rfl) (by kernel_rfl) (by go_simp) (fun _ => hS7) ?_
              simp only [List.setIfInBounds_toArray, List.set_cons_zero, List.set_cons_succ]
              have f13 := k13.frozen 5
              have c13 := hS7.1
              have k13s := k13.set_ 5 (.slice (some ⟨g, 0, none⟩) ((Sp.stRows key l m (m / 2)).length + 1) c')
              simp only [List.setIfInBounds_toArray, List.set_cons_zero, List.set_cons_succ] at k13s
              have k11s := k11.far (p := ⟨g13, 5, none⟩) (Ne.symm n1311) (.slice (some ⟨g, 0, none⟩) ((Sp.stRows key l m (m / 2)).length + 1) c')
              have kbs := kb7.setCell (p := ⟨g13, 5, none⟩) hBg13 (.slice (some ⟨g, 0, none⟩) ((Sp.stRows key l m (m / 2)).length + 1) c')
              have hv13 : u6.ownBlock ≠ some g13 := fun e => by
                obtain ⟨cs', h5⟩ := ownsRow_heap hG7.rows e
                exact (Blk.of_heap h5).ne_ k13 (by decide) rfl
              have hG8 := hG7.far (w' := w7.setCell ⟨g13, 5, none⟩ (.slice (some ⟨g, 0, none⟩) ((Sp.stRows key l m (m / 2)).length + 1) c')) (g := g13) (by simp [World.setCell]) (fun b hb => Below.heap_setCell _ _ _ b hb) hv13 hpne (fun q hq e => by
                obtain ⟨cs', h5⟩ := ownsRow_heap (hG7.own q hq) e
                exact (Blk.of_heap h5).ne_ k13 (by decide) rfl)
              refine R_store 7 (n := .skip) (w' := w7.setCell ⟨g13, 5, none⟩ (.slice (some ⟨g, 0, none⟩) ((Sp.stRows key l m (m / 2)).length + 1) c')) rfl rfl (by rfl) (by kernel_rfl) (by go_simp) (.inl rfl) (fun h => absurd h (by decide)) ?_
              refine R_done (by kernel_rfl) ?_ _
              rename_i K9 hK9
              refine hK9 _ _ ?_
              clear hK9 hS7 f13 c13 hG7 k13 k11 kb7 k12
              have G13 := Lib.hid k13s
              have G11 := Lib.hid k11s
              obtain ⟨cur, hpb, hfit, hG9⟩ := hG8.setp (q := m / 2) (cs := [.int .u8 3, .int .u8 0, .int .u32 (pid : Nat), .int .u64 0, .int .u32 0, .slice (some ⟨g, 0, none⟩) ((Sp.stRows key l m (m / 2)).length + 1 : Nat) c']) hq6 rfl
              have d0 := G13.out.cell 0
              have d1 := G13.out.cell 1
              have d2 := G13.out.cell 2
              have d3 := G13.out.cell 3
              have d4 := G13.out.cell 4
              have d5 := G13.out.cell 5
              simp only [List.getElem?_toArray, List.getElem?_cons_succ, List.getElem?_cons_zero] at d0 d1 d2 d3 d4 d5
              have hB8 : w.heap.size ≤ bp := hG8.bpl
              have k11t := k11s.keep (heap_setRow_other (w7.setCell ⟨g13, 5, none⟩ (.slice (some ⟨g, 0, none⟩) ((Sp.stRows key l m (m / 2)).length + 1) c')) bp g11 (partRow cur (m / 2 * 6) [Value.int .u8 3, .int .u8 0, .int .u32 (pid : Nat), .int .u64 0, .int .u32 0, .slice (some ⟨g, 0, none⟩) ((Sp.stRows key l m (m / 2)).length + 1 : Nat) c']) (k11s.ne_ hpb (by decide)))
              have kbt := below_setRow kbs hB8 (partRow cur (m / 2 * 6) [Value.int .u8 3, .int .u8 0, .int .u32 (pid : Nat), .int .u64 0, .int .u32 0, .slice (some ⟨g, 0, none⟩) ((Sp.stRows key l m (m / 2)).length + 1 : Nat) c'])
              generalize hw8 : World.setCell w7 _ _ = w8 at d0 d1 d2 d3 d4 d5 hpb hG9 k11t kbt ⊢
              clear hw8 k13s k11s kbs hG8 G13 G11
              go_upto_region 22 with (refine wpList_store_part rfl _ _ _ rfl bp (m / 2 * 6) #[Value.int .u8 3, .int .u8 0, .int .u32 (pid : Nat), .int .u64 0, .int .u32 0, .slice (some ⟨g, 0, none⟩) ((Sp.stRows key l m (m / 2)).length + 1 : Nat) c'] rfl rfl _ _ hpb page_size6 (by show m / 2 * 6 + 6 ≤ cur.size; omega) (by simp [Value.oneCell']) ?_)
              generalize hw9 : World.setRow w8 bp _ = w9 at hG9 k11t kbt ⊢
              clear hw9 hpb
              obtain ⟨r0, r1, r2, r3, r4, r5, r6⟩ := vrow_cells k11t
              have hrw := hG9.rows
              have hsz9 := kbt.size
              clear d0 d1 d2 d3 d4 d5 k11t
              simp only [Act.put]
              go_wp2_with (at_builtin; refine wpList_append_own2 _ rfl _ _ 30 rfl w.heap.size 37 ir rwZV 7 64 Tryz.underlying30 hir hr0 hr1 hr2 rfl (by decide) _ m (stC (Sp.stRow key l) m) rfl (hrw.alloc _) ⟨w9.heap.size, 0, none⟩ 1 1 (rwCs (Sp.stRow key l m)) rfl rfl (blk_news (cs := rwCs (Sp.stRow key l m)) (Blk.new w9 37 (rwCs (Sp.stRow key l m)).toArray)) (fun x hx => by simp [rwCs] at hx; rcases hx with rfl | rfl | rfl | rfl | rfl | rfl | rfl <;> rfl) (by unfold maxLen; omega) (by omega) (by simp; omega) ?_; intro v' w11 q1 q2 q3)
              have hG11 := (hG9.below ((Below.refl w9.heap.size w9).alloc (Nat.le_refl _) (.cells (rwCs (Sp.stRow key l m)).toArray 37))).row q1 q2
              have kb11 := (kbt.alloc hsz9 (.cells (rwCs (Sp.stRow key l m)).toArray 37)).grown q2 (by simp; omega) (fun k e => row_base hrw e)
              have eR : (fun i => if i = m / 2 then Sp.stRows key l m (m / 2) ++ [(Sp.stUd key l m).bytes] else Sp.stRows key l m i) = Sp.stRows key l (m + 1) := by
                funext i
                rw [Sp.stRows_succ]
                by_cases e : i = m / 2
                · rw [if_pos e, if_pos e.symm, e]
                · rw [if_neg e, if_neg (fun h => e h.symm)]
              have eP : (fun i => if i = m / 2 then [.int .u8 3, .int .u8 0, .int .u32 (pid : Nat), .int .u64 0, .int .u32 0, .slice (some ⟨g, 0, none⟩) ((Sp.stRows key l m (m / 2)).length + 1 : Nat) c'] else stPgC key l m A3 c3 i) = stPgC key l (m + 1) (fun i => if i = m / 2 then some ⟨g, 0, none⟩ else A3 i) (fun i => if i = m / 2 then c' else c3 i) := by
                funext i
                unfold stPgC
                rw [Sp.stRows_succ]
                by_cases e : i = m / 2
                · rw [if_pos e, if_pos e.symm, HPID.out, e]; simp
                · rw [if_neg e, if_neg (fun h => e h.symm)]; simp [e]
              rw [eR, eP, ← stC_succ] at hG11
              have HF := Lib.hid (show StoAt w.heap.size key l bp v' (m + 1) w11 from ⟨_, _, hG11⟩)
              clear eR eP hG11 q1 q2 q3 hrw hG9 r0 r1 r2 r3 r4 r5 r6
              go_roundw
              case rel => exact ⟨m + 1, hlt, by go_num, HF.out, kb11⟩
              case measure => simp [intOf]; omega
        · obtain rfl : m = l.length := by omega
          go_wp2_with fail
          go_ret2
          exact ⟨_, bp, cp, rfl, HG.out, hb⟩
end Go.Proofs.YtphkggcdfkcidaaGreat

/- The walk of the law package pentimentolaw26: heavy. -/
namespace Go.Proofs.YtphkggcdfkcidaaGreat
open Go.RowKit Go.Conc

def hzSum (l : List Sp.Stp) : Nat := (l.map fun x => x.s.length).sum
def hzB (l : List Sp.Stp) : Bool := decide (10 < l.length) || decide (400 < hzSum (l.take 50))
theorem hzSum_snoc (l : List Sp.Stp) (a : Sp.Stp) : hzSum (l ++ [a]) = hzSum l + a.s.length := by simp [hzSum]
theorem hzSum_le : ∀ (l : List Sp.Stp), (∀ a ∈ l, a.s.length ≤ 140737488355328) → hzSum l ≤ l.length * 140737488355328
  | [], _ => by simp [hzSum]
  | s :: l, h => by
    have h1 := h s List.mem_cons_self
    have h2 := hzSum_le l (fun x hx => h x (List.mem_cons_of_mem _ hx))
    unfold hzSum at h2 ⊢
    simp only [List.map_cons, List.sum_cons, List.length_cons]
    omega
theorem hzSum_mem : ∀ (l : List Sp.Stp) (a : Sp.Stp), a ∈ l → a.s.length ≤ hzSum l
  | x :: l, a, h => by
    unfold hzSum
    simp only [List.map_cons, List.sum_cons]
    rcases List.mem_cons.1 h with rfl | h
    · omega
    · have := hzSum_mem l a h
      unfold hzSum at this; omega
/-- What is not heavy is small. -/
theorem hz_small {l : List Sp.Stp} (h : hzB l = false) : l.length ≤ 10 ∧ ∀ x ∈ l, x.s.length ≤ 1000 := by
  unfold hzB at h
  simp only [Bool.or_eq_false_iff, decide_eq_false_iff_not] at h
  have hl : l.take 50 = l := List.take_of_length_le (by omega)
  rw [hl] at h
  exact ⟨by omega, fun x hx => by have := hzSum_mem l x hx; omega⟩

set_option maxRecDepth 100000 in
set_option maxHeartbeats 2000000 in
theorem law26_heavy (A : Option Addr) (cap : Nat) (l : List Sp.Stp) (hl : l.length ≤ 140737488355328) (hok : ∀ a ∈ l, a.s.length ≤ 140737488355328) (G : Foot) (w : World) (h : StpsAt G w A l) :
    Calls Tryz.prog 7 #[.slice A l.length cap] w fun e w' => e = .returned (.bool (hzB l)) ∧ w' = w := by
  have H := Lib.hid h
  have HOK := Lib.hid hok
  clear h hok
  go_enter Tryz.func7, Tryz.ntmps7
  go_wp2_with fail
  go_loopw [3, 4] (fun n i wr => ∃ k : Nat, k ≤ l.length ∧ k ≤ 50 ∧ i = .int .i64 k ∧ n = .int .i64 (hzSum (l.take k) : Nat) ∧ wr = w) (fun _ i _ => 50 - (intOf i).toNat)
  case atStart => exact ⟨0, by omega, by omega, rfl, rfl, rfl⟩
  case round =>
    obtain ⟨k, hk, hk1, rfl, rfl, hw⟩ := hrel
    subst hw
    have hsum := hzSum_le (l.take k) (fun a ha => HOK.out a (List.mem_of_mem_take ha))
    have hlk : (l.take k).length ≤ 50 := by simp; omega
    have hs63 : hzSum (l.take k) ≤ 50 * 140737488355328 := Nat.le_trans hsum (Nat.mul_le_mul_right _ hlk)
    by_cases hc : k < l.length ∧ k < 50
    · obtain ⟨hlt, h50⟩ := hc
      obtain ⟨b, o, rfl, hbl, ct, cm, cs⟩ := StpsAt.cells H.out hlt
      obtain ⟨x, hx⟩ : ∃ x, x = l[k] := ⟨_, rfl⟩
      have hxo := HOK.out _ (List.getElem_mem hlt)
      have hts := List.take_succ_eq_append_getElem hlt
      rw [← hx] at cs hxo hts
      have HS := Lib.hid (show hzSum (l.take (k + 1)) = hzSum (l.take k) + x.s.length by rw [hts, hzSum_snoc])
      clear hts hx hsum hlk ct cm
      generalize hzSum (l.take k) = n0 at *
      go_wp2_with fail
      go_roundw
      case rel => exact ⟨k + 1, hlt, h50, by go_num, by rw [HS.out]; go_num, trivial⟩
      case measure => simp [intOf]; omega
    · have e50 : l.take k = l.take 50 := by
        by_cases h50 : k = 50
        · rw [h50]
        · rw [List.take_of_length_le (by omega), List.take_of_length_le (by omega)]
      have HB : Hid (hzB l = (decide (10 < l.length) || decide (400 < hzSum (l.take k)))) := Lib.hid (by rw [e50]; rfl)
      clear e50 hsum hlk
      generalize hzSum (l.take k) = n0 at *
      by_cases hlt : k < l.length
      · have h50 : ¬ k < 50 := fun h => hc ⟨hlt, h⟩
        have h10 : 10 < l.length := by omega
        clear hc
        go_wp2_with fail
        go_ret
        exact ⟨by rw [HB.out]; simp [h10], rfl⟩
      · clear hc
        by_cases h10 : 10 < l.length
        · go_wp2_with fail
          go_ret
          exact ⟨by rw [HB.out]; simp [h10], rfl⟩
        · go_wp2_with fail
          go_ret
          refine ⟨?_, rfl⟩
          rw [HB.out]
          simp only [h10, decide_false, Bool.false_or]
          have e1 : decide (10 < (l.length : Int)) = false := by rw [decide_eq_false_iff_not]; omega
          rw [e1, Bool.false_or]
          have e2 : decide (400 < (n0 : Int)) = decide (400 < n0) := decide_eq_decide.2 (by omega)
          rw [e2]
          rfl
end Go.Proofs.YtphkggcdfkcidaaGreat

/- Taking an operation first, in one word: the sides are proved by themselves. No program is named here. -/
namespace Go.Proofs.YtphkggcdfkcidaaGreat
open Go.RowKit

section
variable {P : Program} {ops : Array Oper} {Q : Exit → Act → World → Prop} {md : Region.Mode} {S : World → Prop} {X : Nat → Bool}
theorem R_tk (i : Nat) (t : Tmp) {v : Value} {oi : Oper} {fuel : Nat} {listed : Array Bool} {a : Act} {w : World} (hS : S w)
    (h : wpAnyL P md ops Q S X fuel (listed.setIfInBounds i true) { tmps := a.tmps.setIfInBounds t v, defers := a.defers } w)
    (hi : ops[i]? = some oi := by rfl) (hd : oi.dst = some t := by rfl)
    (hw : Region.wanted oi (yielded ops a.tmps) = true := by rfl)
    (hb : (Region.noSelect ops && Region.free md ops listed i && (Region.ready md ops listed).contains i && allWait md ops X i) = true := by kernel_rfl)
    (hQ : ∀ c a w, Q (.panic c) (a.put (some t) v) w → Q (.panic c) a w := by exact fun _ _ _ h => h)
    (hy : ∀ w, S w → (execOp a.eval oi).run P w = .ok (.value v) w := by intro w hSw; (try dsimp only at hSw); (try simp only [List.setIfInBounds_toArray, List.set_cons_zero, List.set_cons_succ]); go_simp; (try with_reducible rfl)) :
    wpAnyL P md ops Q S X (fuel + 1) listed a w := R_take i t hi hd hw hb hQ hS hy h
end
end Go.Proofs.YtphkggcdfkcidaaGreat

/- What the laws of layer 26 have in memory of their own, and what a call of See or Back leaves there. -/
namespace Go.Proofs.YtphkggcdfkcidaaGreat
open Go.RowKit Go.Conc

theorem Kept.undrew {K : Foot} {W W' : World} (h : Kept K W.drew W') : Kept K W W' := ⟨h.os, h.tape, h.output, h.size, h.block⟩
theorem Kept.drew_ (K : Foot) (W : World) : Kept K W W.drew := ⟨rfl, rfl, rfl, Nat.le_refl _, fun _ _ => rfl⟩

/-- The law's play and rows. -/
structure LawIn (K : Foot) (W : World) (gP gd gl gp gr gv n : Nat) (f : Nat → Sp.Rw) : Prop where
  play : Blk W gP 46 #[ptr gd, ptr gl, ptr gp, ptr gr]
  rows : ∀ i, i < n → ∀ j, j < 7 → W.cell? ⟨gv, i * 7 + j, none⟩ = (rwCs (f i))[j]?
  kP : K gP
  kv : K gv
section
variable {K K' : Foot} {W W' : World} {gP gd gl gp gr gv n : Nat} {f : Nat → Sp.Rw}
theorem LawIn.kept (h : LawIn K W gP gd gl gp gr gv n f) (hk : Kept K W W') : LawIn K W' gP gd gl gp gr gv n f :=
  ⟨h.play.kept hk h.kP, fun i hi j hj => (World.cell?_of_block (a := ⟨gv, i * 7 + j, none⟩) (hk.block gv h.kv)).trans (h.rows i hi j hj), h.kP, h.kv⟩
theorem LawIn.mono (h : LawIn K W gP gd gl gp gr gv n f) (hk : ∀ b, K b → K' b) : LawIn K' W gP gd gl gp gr gv n f := ⟨h.play, h.rows, hk _ h.kP, hk _ h.kv⟩
theorem LawIn.s (h : LawIn K W gP gd gl gp gr gv n f) {i : Nat} (hi : i < n) : W.cell? ⟨gP, 2, none⟩ = some (ptr gp) ∧
    W.cell? ⟨gv, i * 7, none⟩ = some (str (f i).key) ∧ W.cell? ⟨gv, i * 7 + 1, none⟩ = some (.bool (f i).mark) ∧ W.cell? ⟨gv, i * 7 + 2, none⟩ = some (.int .u64 (f i).tx) ∧ W.cell? ⟨gv, i * 7 + 3, none⟩ = some (.int .u32 (f i).page) ∧
    W.cell? ⟨gv, i * 7 + 4, none⟩ = some (.int .u16 (f i).slot) ∧ W.cell? ⟨gv, i * 7 + 5, none⟩ = some (str (f i).value) ∧ W.cell? ⟨gv, i * 7 + 6, none⟩ = some (.int .i64 (f i).pad) :=
  ⟨h.play.cell 2, h.rows i hi 0 (by omega), h.rows i hi 1 (by omega), h.rows i hi 2 (by omega), h.rows i hi 3 (by omega), h.rows i hi 4 (by omega), h.rows i hi 5 (by omega), h.rows i hi 6 (by omega)⟩
end

theorem orZ_one (o : Option Sp.Rw) : (Sp.orZ o).all (·.oneCell') = true := by
  cases o <;> simp [Sp.orZ, rwCs, Value.oneCell']
theorem partRow_row (cs : Array Value) (h : cs.size = 7) : partRow rwZ 0 cs.toList = cs := by
  unfold partRow
  have : (rwZ : Array Value).toList.drop (0 + cs.toList.length) = [] := by rw [List.drop_eq_nil_of_le]; simp [h]
  rw [this]; simp
theorem row_store7 {W : World} {g : Nat} {cs : Array Value} (h : Blk W g 37 rwZ) (hs : cs.size = 7) (h1 : cs.all (·.oneCell') = true) :
    (storeVar 37 ⟨g, 0, none⟩ (.agg cs)).run Tryz.prog W = .ok () (W.setRow g cs) := by
  have := run_storeVar_part (P := Tryz.prog) W g 0 _ 37 rwZ cs h (by rw [hs]; exact row_size) (by rw [hs]; show 0 + 7 ≤ 7; omega) h1
  rw [partRow_row cs hs] at this
  exact this

/-- Behind 'x, is, e := ..': the row lies in a block of its own. -/
def CallAt (pg : Nat → Sp.Pg) (K : Foot) (W0 : World) (gd gl gp : Nat) (cs : Array Value) (v : Value) (W : World) : Prop :=
  ∃ g, v = ptr g ∧ Blk W g 37 cs ∧ LzAt pg (fun b => K b ∨ b = g) W gd gl gp ∧ Kept K W0 W ∧ W0.heap.size ≤ g
section
variable {pg : Nat → Sp.Pg} {K : Foot} {W0 v1 : World} {gd gl gp : Nat}
theorem callAt_1 (hk : Kept K W0 v1) (hp : LzAt pg K v1 gd gl gp) (cs : Array Value) : CallAt pg K W0 gd gl gp cs (ptr v1.heap.size) ((v1.alloc (.cells rwZ 37)).setRow v1.heap.size cs) := by
  have hb := (Below.refl v1.heap.size v1).alloc (Nat.le_refl _) (.cells rwZ 37)
  have hp1 : LzAt pg (fun b => K b ∨ b = v1.heap.size) (v1.alloc (.cells rwZ 37)) gd gl gp := hp.more hb (fun b hb => by rcases hb with hb | rfl; exact .inl hb; exact .inr ⟨Nat.le_refl _, by simp⟩)
  refine ⟨v1.heap.size, rfl, (Blk.new v1 _ rwZ).setRow cs, hp1.turns ((Turns.refl (fun b => K b ∨ b = v1.heap.size) _).setRow (.inl (.inr rfl)) cs), ?_, hk.size⟩
  exact hk.trans ((Kept.of_below hb hp.lt).trans ⟨rfl, rfl, rfl, by simp, fun b hb' => heap_setRow_other _ _ _ _ (Nat.ne_of_lt (hp.lt b hb'))⟩)
theorem callAt_0 (hp : LzAt pg K W0 gd gl gp) : LzAt pg (fun b => K b ∨ b = W0.heap.size) (W0.drew.alloc (.cells rwZ 37)) gd gl gp ∧ Kept K W0 (W0.drew.alloc (.cells rwZ 37)) ∧ Blk (W0.drew.alloc (.cells rwZ 37)) W0.heap.size 37 rwZ := by
  have hb := (Below.refl W0.drew.heap.size W0.drew).alloc (Nat.le_refl _) (.cells rwZ 37)
  refine ⟨hp.drew.more hb (fun b hb => by rcases hb with hb | rfl; exact .inl hb; exact .inr ⟨Nat.le_refl _, by simp⟩), ?_, Blk.new W0.drew _ rwZ⟩
  exact (Kept.drew_ K W0).trans (Kept.of_below hb hp.drew.lt)
theorem callAt_2 (hp0 : LzAt pg K W0 gd gl gp) (hk : Kept (fun b => K b ∨ b = W0.heap.size) (W0.drew.alloc (.cells rwZ 37)) v1) (hp : LzAt pg (fun b => K b ∨ b = W0.heap.size) v1 gd gl gp) (cs : Array Value) :
    CallAt pg K W0 gd gl gp cs (ptr W0.heap.size) (v1.setRow W0.heap.size cs) := by
  obtain ⟨_, h2, h3⟩ := callAt_0 hp0
  refine ⟨W0.heap.size, rfl, (h3.kept hk (.inr rfl)).setRow cs, hp.turns ((Turns.refl (fun b => K b ∨ b = W0.heap.size) _).setRow (.inl (.inr rfl)) cs), ?_, Nat.le_refl _⟩
  exact h2.trans ((hk.mono (fun b hb => .inl hb)).trans ⟨rfl, rfl, rfl, by simp, fun b hb' => heap_setRow_other _ _ _ _ (Nat.ne_of_lt (hp0.lt b hb'))⟩)
end

/-- The pages that a story has. -/
theorem own_reads0 {w : World} {base e n c : Nat} {A : Option Addr} {xs : List Value} (h : w.ownsRow base e 1 (.slice A n c) n xs) : Reads (fun b => b < w.heap.size) w 1 A n xs := by
  refine ⟨by simpa using h.1, fun hn => ?_⟩
  rcases h.2 with ⟨_, h0⟩ | ⟨g, cap, cur, e1, _, hh, _⟩
  · omega
  · injection e1 with e1 _ _
    subst e1
    refine ⟨g, 0, rfl, (h.lt g rfl).2, (h.lt g rfl).2, fun j u hu => ?_⟩
    have := h.cells (g := g) rfl j u hu
    rw [add_off] at this; exact this
theorem StoAt.pgs {base : Nat} {key : Sp.Bs} {l : List Sp.Stp} {bp : Nat} {vr : Value} {m : Nat} {w : World} (h : StoAt base key l bp vr m w) : PgsAt w bp 0 (Sp.stPg key l m) ∧ bp < w.heap.size := by
  obtain ⟨A, c, h⟩ := h
  obtain ⟨cur, hb, hc, hp⟩ := h.pages
  refine ⟨fun q hq => ⟨A q, c q, ?_, ?_, ?_, ?_, ?_, ?_, ?_⟩, hb.lt⟩
  · exact own_reads0 (h.own q hq)
  all_goals (rw [Nat.zero_add])
  · exact (hb.cell _).trans (hp q hq 0 (by omega))
  · exact (hb.cell _).trans (hp q hq 1 (by omega))
  · exact (hb.cell _).trans (hp q hq 2 (by omega))
  · exact (hb.cell _).trans (hp q hq 3 (by omega))
  · exact (hb.cell _).trans (hp q hq 4 (by omega))
  · exact (hb.cell _).trans (hp q hq 5 (by omega))
theorem StoAt.rows {base : Nat} {key : Sp.Bs} {l : List Sp.Stp} {bp : Nat} {vr : Value} {m : Nat} {w : World} (h : StoAt base key l bp vr m w) (hm : 1 ≤ m) : ∃ gv cv, vr = .slice (some ⟨gv, 0, none⟩) m cv ∧ gv < w.heap.size ∧ ∀ i, i < m → ∀ j, j < 7 → w.cell? ⟨gv, i * 7 + j, none⟩ = (rwCs (Sp.stRow key l i))[j]? := by
  obtain ⟨A, c, h⟩ := h
  obtain ⟨gv, cv, rfl⟩ := own_form' h.rows hm
  refine ⟨gv, cv, rfl, (h.rows.lt gv rfl).2, fun i hi j hj => ?_⟩
  have hx : (rwCs (Sp.stRow key l i))[j]? = some ((rwCs (Sp.stRow key l i))[j]'(by simpa using hj)) := List.getElem?_eq_getElem _
  have := h.rows.cells (g := gv) rfl (i * 7 + j) _ (by rw [stC_get _ hi hj, hx])
  rw [add_lit] at this
  rw [this, hx]
/-- What Back answers of a story's versions. -/
theorem sto_back {key : Sp.Bs} {l : List Sp.Stp} (hk : 1 ≤ key.length ∧ key.length ≤ 48) (h10 : l.length ≤ 10) {pg : Nat → Sp.Pg} {i : Nat} (hi : i < l.length) (hpg : pg (i / 2 + 1) = Sp.stPg key l l.length (i / 2 + 1)) (gd gl gp : Nat) : BackAt pg gd gl gp (Sp.stRow key l) i := by
  obtain ⟨r1, r2, r3, r4, r5, r6⟩ := Sp.stRow_ok hk h10 hi
  obtain ⟨u1, u2, u3, u4⟩ := Sp.stUd_ok hk h10 hi
  have hu : UndoAt pg gd gl gp (Sp.stRow key l i).page (Sp.stRow key l i).slot (Sp.stUd key l i) := by
    rw [r4, r5]
    refine undo_at (by omega) (by omega) (by rw [hpg]; rfl) (by omega) _ ?_ u1 u2 (stUd_pad key l i)
    rw [hpg]; exact Sp.stPg_at hi
  intro K w h
  cases i with
  | zero =>
    exact past_back_new h _ _ (by rw [r4]; omega) hu u3 (by rw [u4, r3]) rfl
  | succ j =>
    have e1 : (Sp.stUd key l (j + 1)).was = Sp.stRow key l j := rfl
    have := past_back_put h _ _ (by rw [r4]; omega) hu u3 (by rw [u4, r3]) rfl
    rw [e1] at this
    rw [if_neg (by omega), Nat.add_sub_cancel, show decide (0 < j + 1) = true by rw [decide_eq_true_eq]; omega]
    exact this
end Go.Proofs.YtphkggcdfkcidaaGreat

/- The walk of the law package pentimentolaw26: works. -/
namespace Go.Proofs.YtphkggcdfkcidaaGreat
open Go.RowKit Go.Conc

/-- Two changes. -/
def l0 : List Sp.Stp := [⟨1, false, [120]⟩, ⟨2, false, [121]⟩]
def k0 : Sp.Bs := [97]
def rw0 : Sp.Rw := ⟨[97], false, 2, 1, 0, [120], 0⟩
def rw1 : Sp.Rw := ⟨[97], false, 3, 1, 1, [121], 0⟩
theorem l0_rows : Sp.stRow k0 l0 0 = rw0 ∧ Sp.stRow k0 l0 1 = rw1 := ⟨rfl, rfl⟩
theorem rw_one (r : Sp.Rw) : (rwCs r).toArray.all (·.oneCell') = true := row_one _ _ _ _ _ _ _
/-- What See answers to the two, and Back. -/
def SeeC (pg : Nat → Sp.Pg) (gd gl gp : Nat) (r : Sp.Rw) (next : Nat) (cs : Array Value) (b : Bool) : Prop :=
  ∀ (K : Foot) (w : World), LzAt pg K w gd gl gp → Calls Tryz.prog 14 #[ptr gp, rwV r, viewV 0 next none 0 0] w fun e w' => e = .returned (.tuple #[.agg cs, .bool b, .int .i64 0]) ∧ Kept K w w' ∧ LzAt pg K w' gd gl gp
def BackC (pg : Nat → Sp.Pg) (gd gl gp : Nat) (r : Sp.Rw) (cs : Array Value) (b : Bool) (er : Int) : Prop :=
  ∀ (K : Foot) (w : World), LzAt pg K w gd gl gp → Calls Tryz.prog 11 #[ptr gp, rwV r] w fun e w' => e = .returned (.tuple #[.agg cs, .bool b, .int .i64 er]) ∧ Kept K w w' ∧ LzAt pg K w' gd gl gp
theorem seeC_of {pg : Nat → Sp.Pg} {gd gl gp : Nat} {row : Nat → Sp.Rw} {k : Nat} (hk : k ≤ 1000) (next : Nat) (hB : ∀ i, i ≤ k → BackAt pg gd gl gp row i) : SeeC pg gd gl gp (row k) next (Sp.orZ (Sp.seeAt row (Sp.sees 0 next []) k)) (Sp.seeAt row (Sp.sees 0 next []) k).isSome := fun K w h =>
  past_see h row k hk 0 next none 0 [] (by simp) Reads.none_ (fun i hi _ => hB i hi)
theorem stpsAt0 (w : World) : StpsAt (fun b => b < (w.alloc (.cells #[.int .u8 1, .bool false, str [120], .int .u8 2, .bool false, str [121]] 69)).heap.size) (w.alloc (.cells #[.int .u8 1, .bool false, str [120], .int .u8 2, .bool false, str [121]] 69)) (some ⟨w.heap.size, 0, none⟩) l0 :=
  ⟨rfl, fun _ => ⟨w.heap.size, 0, rfl, by simp, by simp, fun j u hu => by
    have := (Blk.new w 69 #[.int .u8 1, .bool false, str [120], .int .u8 2, .bool false, str [121]]).cell j
    rw [Nat.zero_add, this, List.getElem?_toArray]; exact hu⟩⟩

set_option maxRecDepth 100000 in
set_option maxHeartbeats 8000000 in
theorem law26_works (w : World) : Calls Tryz.prog 8 #[] w fun e w' => e = .returned (.bool true) ∧ Below w.heap.size w w' := by
  have HST := Lib.hid (law_story k0 (by decide) l0 (by decide) (by decide) (by decide) (by decide) _ _ 2 _ (stpsAt0 w))
  go_enter Tryz.func8, Tryz.ntmps8
  go_wp2_with fail
  refine HST.out.mono ?_
  rintro e w2 ⟨vr, bp, cp, rfl, hsto, hb2⟩
  obtain ⟨hpgs, hbp⟩ := hsto.pgs
  obtain ⟨gv, cv, rfl, hgv, hrows⟩ := hsto.rows (by decide)
  rw [show l0.length = 2 from rfl]
  obtain ⟨pg, hpgE⟩ : ∃ pg, pg = Sp.stPg k0 l0 l0.length := ⟨_, rfl⟩
  have hok : PgOk pg := fun q h1 h6 => by rw [hpgE]; exact Sp.stPg_ok (by decide) (by decide) (Nat.le_refl _) h1 h6
  rw [← hpgE] at hpgs
  have HLD := Lib.hid (law_laid pg hok bp 0 cp w2 hbp hpgs)
  have HPE := Lib.hid hpgE
  have hbw2 : Below w.heap.size w w2 := ((Below.refl w.heap.size w).alloc (Nat.le_refl _) (.cells #[.int .u8 1, .bool false, str [120], .int .u8 2, .bool false, str [121]] 69)).trans (hb2.mono (by simp))
  clear HST hsto hb2 hpgs hpgE hok
  go_wp2_with fail
  refine HLD.out.mono ?_
  rintro e w3 ⟨gP, gr, gd, gl, gp, rfl, hPl, hb3, hL⟩
  have HBK := Lib.hid fun (i : Nat) (hi : i < 2) => sto_back (key := k0) (l := l0) (by decide) (by decide) (pg := pg) hi (by rw [HPE.out]) gd gl gp
  have HI := Lib.hid (show LawIn (fun b => b < w2.heap.size ∨ b = gP) w3 gP gd gl gp gr gv 2 (Sp.stRow k0 l0) from ⟨hPl, fun i hi j hj => (World.cell?_of_block (a := ⟨gv, i * 7 + j, none⟩) (hb3.block gv hgv)).trans (hrows i hi j hj), .inr rfl, .inl hgv⟩)
  have HP := Lib.hid (show LzAt pg (fun b => b < w2.heap.size ∨ b = gP) w3 gd gl gp from ⟨[], hL, by simp⟩)
  have HC9 : Hid (SeeC pg gd gl gp rw1 9 (rwCs rw1).toArray true) := Lib.hid (seeC_of (row := Sp.stRow k0 l0) (k := 1) (by omega) 9 (fun i hi => HBK.out i (by omega)))
  have HC3 : Hid (SeeC pg gd gl gp rw1 3 (rwCs rw0).toArray true) := Lib.hid (seeC_of (row := Sp.stRow k0 l0) (k := 1) (by omega) 3 (fun i hi => HBK.out i (by omega)))
  have HC1 : Hid (SeeC pg gd gl gp rw1 1 rwZ false) := Lib.hid (seeC_of (row := Sp.stRow k0 l0) (k := 1) (by omega) 1 (fun i hi => HBK.out i (by omega)))
  have HCB : Hid (BackC pg gd gl gp rw1 (rwCs rw0).toArray true 0) := Lib.hid (HBK.out 1 (by omega))
  have hbw3 := hbw2.trans (hb3.mono hbw2.size)
  have HK0 := Lib.hid (show ∀ b, b < w.heap.size → (fun b => b < w2.heap.size ∨ b = gP) b from fun b hb => .inl (Nat.lt_of_lt_of_le hb hbw2.size))
  clear HLD hPl hb3 hL hrows hbw2 HBK HPE hbp hgv
  go_upto_region 5 with fail
  go_cut [4, 5, 6] (fun va vb ve wx => CallAt pg (fun b => b < w2.heap.size ∨ b = gP) w3 gd gl gp (rwCs rw1).toArray va wx ∧ vb = .bool true ∧ ve = .int .i64 0)
  case first =>
    go_wp2_with fail
    have hS0 := Lib.hid (LawIn.s (i := 1) HI.out (by omega))
    refine R_begin (fun (W : World) => W.cell? ⟨gP, 2, none⟩ = some (ptr gp) ∧ W.cell? ⟨gv, 7, none⟩ = some (str (rw1).key) ∧ W.cell? ⟨gv, 8, none⟩ = some (.bool (rw1).mark) ∧ W.cell? ⟨gv, 9, none⟩ = some (.int .u64 (rw1).tx) ∧ W.cell? ⟨gv, 10, none⟩ = some (.int .u32 (rw1).page) ∧ W.cell? ⟨gv, 11, none⟩ = some (.int .u16 (rw1).slot) ∧ W.cell? ⟨gv, 12, none⟩ = some (str (rw1).value) ∧ W.cell? ⟨gv, 13, none⟩ = some (.int .i64 (rw1).pad)) (fun _ => false) rfl ?_
    refine R_tk 0 33 hS0.out ?_
    refine R_tk 1 34 hS0.out ?_
    refine R_tk 2 35 hS0.out ?_
    refine R_tk 3 36 hS0.out ?_
    refine R_tk 4 37 hS0.out ?_
    refine R_tk 5 38 hS0.out ?_
    refine R_tk 6 39 hS0.out ?_
    refine R_tk 7 40 hS0.out ?_
    simp only [List.setIfInBounds_toArray, List.set_cons_zero, List.set_cons_succ]
    refine R_all (rs := [8, 13]) (by kernel_rfl) (by simp) (fun i hi => ?_)
    simp only [List.mem_cons, List.not_mem_nil, or_false] at hi
    rcases hi with rfl | rfl
    · skip
      have hc := HC9.out (fun b => b < w2.heap.size ∨ b = gP) _ HP.out.drew
      refine op_call 41 (w' := w3.drew) rfl rfl (by rfl) ?_ hc ?_
      · go_simp
      rintro e v1 ⟨rfl, hk1, hp1⟩
      have hi1 := HI.out.kept (Kept.undrew hk1)
      have hS1 := Lib.hid (LawIn.s (i := 1) hi1 (by omega))
      refine ⟨_, rfl, fun _ => hS1.out, ?_⟩
      simp only [List.setIfInBounds_toArray, List.set_cons_zero, List.set_cons_succ]
      clear hc
      refine R_tk 9 32 hS1.out ?_
      refine R_tk 10 42 hS1.out ?_
      refine R_tk 11 43 hS1.out ?_
      refine R_tk 12 44 hS1.out ?_
      simp only [List.setIfInBounds_toArray, List.set_cons_zero, List.set_cons_succ]
      have hi2 := hi1.kept (Kept.of_below ((Below.refl v1.heap.size v1).alloc (Nat.le_refl _) (.cells rwZ 37)) hp1.lt)
      have hS2 := Lib.hid (LawIn.s (i := 1) hi2 (by omega))
      refine R_run 13 4 (v := ptr v1.heap.size) (w' := v1.alloc (.cells rwZ 37)) rfl rfl (by rfl) (by kernel_rfl) ?_ (fun _ => hS2.out) ?_
      · first | (go_simp; done) | (go_simp; rfl)
      simp only [List.setIfInBounds_toArray, List.set_cons_zero, List.set_cons_succ]
      have hn := Blk.new v1 37 rwZ
      have hca := callAt_1 (Kept.undrew hk1) hp1 ((rwCs rw1).toArray)
      have hS3 := Lib.hid (show (fun (W : World) => W.cell? ⟨gP, 2, none⟩ = some (ptr gp) ∧ W.cell? ⟨gv, 7, none⟩ = some (str (rw1).key) ∧ W.cell? ⟨gv, 8, none⟩ = some (.bool (rw1).mark) ∧ W.cell? ⟨gv, 9, none⟩ = some (.int .u64 (rw1).tx) ∧ W.cell? ⟨gv, 10, none⟩ = some (.int .u32 (rw1).page) ∧ W.cell? ⟨gv, 11, none⟩ = some (.int .u16 (rw1).slot) ∧ W.cell? ⟨gv, 12, none⟩ = some (str (rw1).value) ∧ W.cell? ⟨gv, 13, none⟩ = some (.int .i64 (rw1).pad)) _ from LawIn.s (i := 1) (HI.out.kept hca.choose_spec.2.2.2.1) (by omega))
      (try simp only [List.setIfInBounds_toArray, List.set_cons_zero, List.set_cons_succ])
      refine R_store 14 (n := .skip) (w' := (v1.alloc (.cells rwZ 37)).setRow v1.heap.size ((rwCs rw1).toArray)) rfl rfl (by rfl) (by kernel_rfl) (run_op_store _ _ _ _ _ rfl rfl rfl (row_store7 hn rfl (rw_one _))) (.inl rfl) (fun _ => hS3.out) ?_
      refine R_tk 15 5 hS3.out ?_
      refine R_tk 16 6 hS3.out ?_
      simp only [List.setIfInBounds_toArray, List.set_cons_zero, List.set_cons_succ]
      refine R_done (by kernel_rfl) ?_ _
      rename_i K9 hK9
      refine hK9 _ _ ?_
      clear hK9
      go_meet
      case rel => exact ⟨hca, rfl, rfl⟩
    · skip
      obtain ⟨hp1, hk1, hn1⟩ := callAt_0 HP.out
      have hi1 := HI.out.kept hk1
      have hS1 := Lib.hid (LawIn.s (i := 1) hi1 (by omega))
      refine op_run 4 (v := ptr w3.heap.size) (w' := w3.drew.alloc (.cells rwZ 37)) rfl rfl (by rfl) ?_ ⟨fun _ => hS1.out, ?_⟩
      · first | (go_simp; done) | (go_simp; rfl)
      simp only [List.setIfInBounds_toArray, List.set_cons_zero, List.set_cons_succ]
      have hc := HC9.out (fun b => (fun b => b < w2.heap.size ∨ b = gP) b ∨ b = w3.heap.size) _ hp1
      refine R_call 8 41 (w' := w3.drew.alloc (.cells rwZ 37)) rfl rfl (by rfl) (by kernel_rfl) ?_ hc ?_
      · go_simp
      rintro e v2 ⟨rfl, hk2, hp2⟩
      have hi2 := hi1.kept (hk2.mono (fun b hb => .inl hb))
      have hS2 := Lib.hid (LawIn.s (i := 1) hi2 (by omega))
      refine ⟨_, rfl, fun _ => hS2.out, ?_⟩
      simp only [List.setIfInBounds_toArray, List.set_cons_zero, List.set_cons_succ]
      clear hc
      refine R_tk 9 32 hS2.out ?_
      refine R_tk 10 42 hS2.out ?_
      refine R_tk 11 43 hS2.out ?_
      refine R_tk 12 44 hS2.out ?_
      have hca := callAt_2 HP.out hk2 hp2 ((rwCs rw1).toArray)
      have hS3 := Lib.hid (show (fun (W : World) => W.cell? ⟨gP, 2, none⟩ = some (ptr gp) ∧ W.cell? ⟨gv, 7, none⟩ = some (str (rw1).key) ∧ W.cell? ⟨gv, 8, none⟩ = some (.bool (rw1).mark) ∧ W.cell? ⟨gv, 9, none⟩ = some (.int .u64 (rw1).tx) ∧ W.cell? ⟨gv, 10, none⟩ = some (.int .u32 (rw1).page) ∧ W.cell? ⟨gv, 11, none⟩ = some (.int .u16 (rw1).slot) ∧ W.cell? ⟨gv, 12, none⟩ = some (str (rw1).value) ∧ W.cell? ⟨gv, 13, none⟩ = some (.int .i64 (rw1).pad)) _ from LawIn.s (i := 1) (HI.out.kept hca.choose_spec.2.2.2.1) (by omega))
      (try simp only [List.setIfInBounds_toArray, List.set_cons_zero, List.set_cons_succ])
      refine R_store 14 (n := .skip) (w' := v2.setRow w3.heap.size ((rwCs rw1).toArray)) rfl rfl (by rfl) (by kernel_rfl) (run_op_store _ _ _ _ _ rfl rfl rfl (row_store7 (hn1.kept hk2 (.inr rfl)) rfl (rw_one _))) (.inl rfl) (fun _ => hS3.out) ?_
      refine R_tk 15 5 hS3.out ?_
      refine R_tk 16 6 hS3.out ?_
      simp only [List.setIfInBounds_toArray, List.set_cons_zero, List.set_cons_succ]
      refine R_done (by kernel_rfl) ?_ _
      rename_i K9 hK9
      refine hK9 _ _ ?_
      clear hK9
      go_meet
      case rel => exact ⟨hca, rfl, rfl⟩
  case rest =>
  obtain ⟨⟨g4, rfl, hg4, hp5, hk5, hge5⟩, rfl, rfl⟩ := hcut
  obtain ⟨w4, rfl⟩ : ∃ x : World, x = wc := ⟨_, rfl⟩
  replace HI := Lib.hid ((HI.out.kept hk5).mono (K' := fun b => (fun b => b < w2.heap.size ∨ b = gP) b ∨ b = g4) (fun b hb => .inl hb))
  replace HP := Lib.hid hp5
  replace hbw3 := hbw3.trans (hk5.below (fun b hb => HK0.out b hb))
  replace HK0 := Lib.hid (show ∀ b, b < w.heap.size → (fun b => (fun b => b < w2.heap.size ∨ b = gP) b ∨ b = g4) b from fun b hb => .inl (HK0.out b hb))
  have Hg4 := Lib.hid hg4
  clear hg4 hp5 hk5 hge5
  replace HK0 : Hid (∀ b, b < w.heap.size → (fun b => (fun b => b < w2.heap.size ∨ b = gP) b ∨ b = g4) b) := HK0
  go_upto_region 6 with fail
  go_cut [7, 8, 9] (fun va vb ve wx => CallAt pg (fun b => (fun b => b < w2.heap.size ∨ b = gP) b ∨ b = g4) w4 gd gl gp (rwCs rw0).toArray va wx ∧ vb = .bool true ∧ ve = .int .i64 0)
  case first =>
    go_wp2_with fail
    have hS0 := Lib.hid (LawIn.s (i := 1) HI.out (by omega))
    refine R_begin (fun (W : World) => W.cell? ⟨gP, 2, none⟩ = some (ptr gp) ∧ W.cell? ⟨gv, 7, none⟩ = some (str (rw1).key) ∧ W.cell? ⟨gv, 8, none⟩ = some (.bool (rw1).mark) ∧ W.cell? ⟨gv, 9, none⟩ = some (.int .u64 (rw1).tx) ∧ W.cell? ⟨gv, 10, none⟩ = some (.int .u32 (rw1).page) ∧ W.cell? ⟨gv, 11, none⟩ = some (.int .u16 (rw1).slot) ∧ W.cell? ⟨gv, 12, none⟩ = some (str (rw1).value) ∧ W.cell? ⟨gv, 13, none⟩ = some (.int .i64 (rw1).pad)) (fun _ => false) rfl ?_
    refine R_tk 0 46 hS0.out ?_
    refine R_tk 1 47 hS0.out ?_
    refine R_tk 2 48 hS0.out ?_
    refine R_tk 3 49 hS0.out ?_
    refine R_tk 4 50 hS0.out ?_
    refine R_tk 5 51 hS0.out ?_
    refine R_tk 6 52 hS0.out ?_
    refine R_tk 7 53 hS0.out ?_
    simp only [List.setIfInBounds_toArray, List.set_cons_zero, List.set_cons_succ]
    refine R_all (rs := [8, 13]) (by kernel_rfl) (by simp) (fun i hi => ?_)
    simp only [List.mem_cons, List.not_mem_nil, or_false] at hi
    rcases hi with rfl | rfl
    · skip
      have hc := HC3.out (fun b => (fun b => b < w2.heap.size ∨ b = gP) b ∨ b = g4) _ HP.out.drew
      refine op_call 54 (w' := w4.drew) rfl rfl (by rfl) ?_ hc ?_
      · go_simp
      rintro e v1 ⟨rfl, hk1, hp1⟩
      have hi1 := HI.out.kept (Kept.undrew hk1)
      have hS1 := Lib.hid (LawIn.s (i := 1) hi1 (by omega))
      refine ⟨_, rfl, fun _ => hS1.out, ?_⟩
      simp only [List.setIfInBounds_toArray, List.set_cons_zero, List.set_cons_succ]
      clear hc
      refine R_tk 9 45 hS1.out ?_
      refine R_tk 10 55 hS1.out ?_
      refine R_tk 11 56 hS1.out ?_
      refine R_tk 12 57 hS1.out ?_
      simp only [List.setIfInBounds_toArray, List.set_cons_zero, List.set_cons_succ]
      have hi2 := hi1.kept (Kept.of_below ((Below.refl v1.heap.size v1).alloc (Nat.le_refl _) (.cells rwZ 37)) hp1.lt)
      have hS2 := Lib.hid (LawIn.s (i := 1) hi2 (by omega))
      refine R_run 13 7 (v := ptr v1.heap.size) (w' := v1.alloc (.cells rwZ 37)) rfl rfl (by rfl) (by kernel_rfl) ?_ (fun _ => hS2.out) ?_
      · first | (go_simp; done) | (go_simp; rfl)
      simp only [List.setIfInBounds_toArray, List.set_cons_zero, List.set_cons_succ]
      have hn := Blk.new v1 37 rwZ
      have hca := callAt_1 (Kept.undrew hk1) hp1 ((rwCs rw0).toArray)
      have hS3 := Lib.hid (show (fun (W : World) => W.cell? ⟨gP, 2, none⟩ = some (ptr gp) ∧ W.cell? ⟨gv, 7, none⟩ = some (str (rw1).key) ∧ W.cell? ⟨gv, 8, none⟩ = some (.bool (rw1).mark) ∧ W.cell? ⟨gv, 9, none⟩ = some (.int .u64 (rw1).tx) ∧ W.cell? ⟨gv, 10, none⟩ = some (.int .u32 (rw1).page) ∧ W.cell? ⟨gv, 11, none⟩ = some (.int .u16 (rw1).slot) ∧ W.cell? ⟨gv, 12, none⟩ = some (str (rw1).value) ∧ W.cell? ⟨gv, 13, none⟩ = some (.int .i64 (rw1).pad)) _ from LawIn.s (i := 1) (HI.out.kept hca.choose_spec.2.2.2.1) (by omega))
      (try simp only [List.setIfInBounds_toArray, List.set_cons_zero, List.set_cons_succ])
      refine R_store 14 (n := .skip) (w' := (v1.alloc (.cells rwZ 37)).setRow v1.heap.size ((rwCs rw0).toArray)) rfl rfl (by rfl) (by kernel_rfl) (run_op_store _ _ _ _ _ rfl rfl rfl (row_store7 hn rfl (rw_one _))) (.inl rfl) (fun _ => hS3.out) ?_
      refine R_tk 15 8 hS3.out ?_
      refine R_tk 16 9 hS3.out ?_
      simp only [List.setIfInBounds_toArray, List.set_cons_zero, List.set_cons_succ]
      refine R_done (by kernel_rfl) ?_ _
      rename_i K9 hK9
      refine hK9 _ _ ?_
      clear hK9
      go_meet
      case rel => exact ⟨hca, rfl, rfl⟩
    · skip
      obtain ⟨hp1, hk1, hn1⟩ := callAt_0 HP.out
      have hi1 := HI.out.kept hk1
      have hS1 := Lib.hid (LawIn.s (i := 1) hi1 (by omega))
      refine op_run 7 (v := ptr w4.heap.size) (w' := w4.drew.alloc (.cells rwZ 37)) rfl rfl (by rfl) ?_ ⟨fun _ => hS1.out, ?_⟩
      · first | (go_simp; done) | (go_simp; rfl)
      simp only [List.setIfInBounds_toArray, List.set_cons_zero, List.set_cons_succ]
      have hc := HC3.out (fun b => (fun b => (fun b => b < w2.heap.size ∨ b = gP) b ∨ b = g4) b ∨ b = w4.heap.size) _ hp1
      refine R_call 8 54 (w' := w4.drew.alloc (.cells rwZ 37)) rfl rfl (by rfl) (by kernel_rfl) ?_ hc ?_
      · go_simp
      rintro e v2 ⟨rfl, hk2, hp2⟩
      have hi2 := hi1.kept (hk2.mono (fun b hb => .inl hb))
      have hS2 := Lib.hid (LawIn.s (i := 1) hi2 (by omega))
      refine ⟨_, rfl, fun _ => hS2.out, ?_⟩
      simp only [List.setIfInBounds_toArray, List.set_cons_zero, List.set_cons_succ]
      clear hc
      refine R_tk 9 45 hS2.out ?_
      refine R_tk 10 55 hS2.out ?_
      refine R_tk 11 56 hS2.out ?_
      refine R_tk 12 57 hS2.out ?_
      have hca := callAt_2 HP.out hk2 hp2 ((rwCs rw0).toArray)
      have hS3 := Lib.hid (show (fun (W : World) => W.cell? ⟨gP, 2, none⟩ = some (ptr gp) ∧ W.cell? ⟨gv, 7, none⟩ = some (str (rw1).key) ∧ W.cell? ⟨gv, 8, none⟩ = some (.bool (rw1).mark) ∧ W.cell? ⟨gv, 9, none⟩ = some (.int .u64 (rw1).tx) ∧ W.cell? ⟨gv, 10, none⟩ = some (.int .u32 (rw1).page) ∧ W.cell? ⟨gv, 11, none⟩ = some (.int .u16 (rw1).slot) ∧ W.cell? ⟨gv, 12, none⟩ = some (str (rw1).value) ∧ W.cell? ⟨gv, 13, none⟩ = some (.int .i64 (rw1).pad)) _ from LawIn.s (i := 1) (HI.out.kept hca.choose_spec.2.2.2.1) (by omega))
      (try simp only [List.setIfInBounds_toArray, List.set_cons_zero, List.set_cons_succ])
      refine R_store 14 (n := .skip) (w' := v2.setRow w4.heap.size ((rwCs rw0).toArray)) rfl rfl (by rfl) (by kernel_rfl) (run_op_store _ _ _ _ _ rfl rfl rfl (row_store7 (hn1.kept hk2 (.inr rfl)) rfl (rw_one _))) (.inl rfl) (fun _ => hS3.out) ?_
      refine R_tk 15 8 hS3.out ?_
      refine R_tk 16 9 hS3.out ?_
      simp only [List.setIfInBounds_toArray, List.set_cons_zero, List.set_cons_succ]
      refine R_done (by kernel_rfl) ?_ _
      rename_i K9 hK9
      refine hK9 _ _ ?_
      clear hK9
      go_meet
      case rel => exact ⟨hca, rfl, rfl⟩
  case rest =>
  obtain ⟨⟨g7, rfl, hg7, hp6, hk6, hge6⟩, rfl, rfl⟩ := hcut
  obtain ⟨w5, rfl⟩ : ∃ x : World, x = wc := ⟨_, rfl⟩
  replace HI := Lib.hid ((HI.out.kept hk6).mono (K' := fun b => (fun b => (fun b => b < w2.heap.size ∨ b = gP) b ∨ b = g4) b ∨ b = g7) (fun b hb => .inl hb))
  replace HP := Lib.hid hp6
  replace hbw3 := hbw3.trans (hk6.below (fun b hb => HK0.out b hb))
  replace HK0 := Lib.hid (show ∀ b, b < w.heap.size → (fun b => (fun b => (fun b => b < w2.heap.size ∨ b = gP) b ∨ b = g4) b ∨ b = g7) b from fun b hb => .inl (HK0.out b hb))
  have Hg7 := Lib.hid hg7
  replace Hg4 := Lib.hid (Hg4.out.kept hk6 (.inr rfl))
  clear hg7 hp6 hk6 hge6
  go_upto_region 7 with fail
  go_cut [10, 11, 12] (fun va vb ve wx => CallAt pg (fun b => (fun b => (fun b => b < w2.heap.size ∨ b = gP) b ∨ b = g4) b ∨ b = g7) w5 gd gl gp rwZ va wx ∧ vb = .bool false ∧ ve = .int .i64 0)
  case first =>
    go_wp2_with fail
    have hS0 := Lib.hid (LawIn.s (i := 1) HI.out (by omega))
    refine R_begin (fun (W : World) => W.cell? ⟨gP, 2, none⟩ = some (ptr gp) ∧ W.cell? ⟨gv, 7, none⟩ = some (str (rw1).key) ∧ W.cell? ⟨gv, 8, none⟩ = some (.bool (rw1).mark) ∧ W.cell? ⟨gv, 9, none⟩ = some (.int .u64 (rw1).tx) ∧ W.cell? ⟨gv, 10, none⟩ = some (.int .u32 (rw1).page) ∧ W.cell? ⟨gv, 11, none⟩ = some (.int .u16 (rw1).slot) ∧ W.cell? ⟨gv, 12, none⟩ = some (str (rw1).value) ∧ W.cell? ⟨gv, 13, none⟩ = some (.int .i64 (rw1).pad)) (fun _ => false) rfl ?_
    refine R_tk 0 59 hS0.out ?_
    refine R_tk 1 60 hS0.out ?_
    refine R_tk 2 61 hS0.out ?_
    refine R_tk 3 62 hS0.out ?_
    refine R_tk 4 63 hS0.out ?_
    refine R_tk 5 64 hS0.out ?_
    refine R_tk 6 65 hS0.out ?_
    refine R_tk 7 66 hS0.out ?_
    simp only [List.setIfInBounds_toArray, List.set_cons_zero, List.set_cons_succ]
    refine R_all (rs := [8, 13]) (by kernel_rfl) (by simp) (fun i hi => ?_)
    simp only [List.mem_cons, List.not_mem_nil, or_false] at hi
    rcases hi with rfl | rfl
    · skip
      have hc := HC1.out (fun b => (fun b => (fun b => b < w2.heap.size ∨ b = gP) b ∨ b = g4) b ∨ b = g7) _ HP.out.drew
      refine op_call 67 (w' := w5.drew) rfl rfl (by rfl) ?_ hc ?_
      · go_simp
      rintro e v1 ⟨rfl, hk1, hp1⟩
      have hi1 := HI.out.kept (Kept.undrew hk1)
      have hS1 := Lib.hid (LawIn.s (i := 1) hi1 (by omega))
      refine ⟨_, rfl, fun _ => hS1.out, ?_⟩
      simp only [List.setIfInBounds_toArray, List.set_cons_zero, List.set_cons_succ]
      clear hc
      refine R_tk 9 58 hS1.out ?_
      refine R_tk 10 68 hS1.out ?_
      refine R_tk 11 69 hS1.out ?_
      refine R_tk 12 70 hS1.out ?_
      simp only [List.setIfInBounds_toArray, List.set_cons_zero, List.set_cons_succ]
      have hi2 := hi1.kept (Kept.of_below ((Below.refl v1.heap.size v1).alloc (Nat.le_refl _) (.cells rwZ 37)) hp1.lt)
      have hS2 := Lib.hid (LawIn.s (i := 1) hi2 (by omega))
      refine R_run 13 10 (v := ptr v1.heap.size) (w' := v1.alloc (.cells rwZ 37)) rfl rfl (by rfl) (by kernel_rfl) ?_ (fun _ => hS2.out) ?_
      · first | (go_simp; done) | (go_simp; rfl)
      simp only [List.setIfInBounds_toArray, List.set_cons_zero, List.set_cons_succ]
      have hn := Blk.new v1 37 rwZ
      have hca := callAt_1 (Kept.undrew hk1) hp1 (rwZ)
      have hS3 := Lib.hid (show (fun (W : World) => W.cell? ⟨gP, 2, none⟩ = some (ptr gp) ∧ W.cell? ⟨gv, 7, none⟩ = some (str (rw1).key) ∧ W.cell? ⟨gv, 8, none⟩ = some (.bool (rw1).mark) ∧ W.cell? ⟨gv, 9, none⟩ = some (.int .u64 (rw1).tx) ∧ W.cell? ⟨gv, 10, none⟩ = some (.int .u32 (rw1).page) ∧ W.cell? ⟨gv, 11, none⟩ = some (.int .u16 (rw1).slot) ∧ W.cell? ⟨gv, 12, none⟩ = some (str (rw1).value) ∧ W.cell? ⟨gv, 13, none⟩ = some (.int .i64 (rw1).pad)) _ from LawIn.s (i := 1) (HI.out.kept hca.choose_spec.2.2.2.1) (by omega))
      (try simp only [List.setIfInBounds_toArray, List.set_cons_zero, List.set_cons_succ])
      refine R_store 14 (n := .skip) (w' := (v1.alloc (.cells rwZ 37)).setRow v1.heap.size (rwZ)) rfl rfl (by rfl) (by kernel_rfl) (run_op_store _ _ _ _ _ rfl rfl rfl (row_store7 hn rfl (orZ_one none))) (.inl rfl) (fun _ => hS3.out) ?_
      refine R_tk 15 11 hS3.out ?_
      refine R_tk 16 12 hS3.out ?_
      simp only [List.setIfInBounds_toArray, List.set_cons_zero, List.set_cons_succ]
      refine R_done (by kernel_rfl) ?_ _
      rename_i K9 hK9
      refine hK9 _ _ ?_
      clear hK9
      go_meet
      case rel => exact ⟨hca, rfl, rfl⟩
    · skip
      obtain ⟨hp1, hk1, hn1⟩ := callAt_0 HP.out
      have hi1 := HI.out.kept hk1
      have hS1 := Lib.hid (LawIn.s (i := 1) hi1 (by omega))
      refine op_run 10 (v := ptr w5.heap.size) (w' := w5.drew.alloc (.cells rwZ 37)) rfl rfl (by rfl) ?_ ⟨fun _ => hS1.out, ?_⟩
      · first | (go_simp; done) | (go_simp; rfl)
      simp only [List.setIfInBounds_toArray, List.set_cons_zero, List.set_cons_succ]
      have hc := HC1.out (fun b => (fun b => (fun b => (fun b => b < w2.heap.size ∨ b = gP) b ∨ b = g4) b ∨ b = g7) b ∨ b = w5.heap.size) _ hp1
      refine R_call 8 67 (w' := w5.drew.alloc (.cells rwZ 37)) rfl rfl (by rfl) (by kernel_rfl) ?_ hc ?_
      · go_simp
      rintro e v2 ⟨rfl, hk2, hp2⟩
      have hi2 := hi1.kept (hk2.mono (fun b hb => .inl hb))
      have hS2 := Lib.hid (LawIn.s (i := 1) hi2 (by omega))
      refine ⟨_, rfl, fun _ => hS2.out, ?_⟩
      simp only [List.setIfInBounds_toArray, List.set_cons_zero, List.set_cons_succ]
      clear hc
      refine R_tk 9 58 hS2.out ?_
      refine R_tk 10 68 hS2.out ?_
      refine R_tk 11 69 hS2.out ?_
      refine R_tk 12 70 hS2.out ?_
      have hca := callAt_2 HP.out hk2 hp2 (rwZ)
      have hS3 := Lib.hid (show (fun (W : World) => W.cell? ⟨gP, 2, none⟩ = some (ptr gp) ∧ W.cell? ⟨gv, 7, none⟩ = some (str (rw1).key) ∧ W.cell? ⟨gv, 8, none⟩ = some (.bool (rw1).mark) ∧ W.cell? ⟨gv, 9, none⟩ = some (.int .u64 (rw1).tx) ∧ W.cell? ⟨gv, 10, none⟩ = some (.int .u32 (rw1).page) ∧ W.cell? ⟨gv, 11, none⟩ = some (.int .u16 (rw1).slot) ∧ W.cell? ⟨gv, 12, none⟩ = some (str (rw1).value) ∧ W.cell? ⟨gv, 13, none⟩ = some (.int .i64 (rw1).pad)) _ from LawIn.s (i := 1) (HI.out.kept hca.choose_spec.2.2.2.1) (by omega))
      (try simp only [List.setIfInBounds_toArray, List.set_cons_zero, List.set_cons_succ])
      refine R_store 14 (n := .skip) (w' := v2.setRow w5.heap.size (rwZ)) rfl rfl (by rfl) (by kernel_rfl) (run_op_store _ _ _ _ _ rfl rfl rfl (row_store7 (hn1.kept hk2 (.inr rfl)) rfl (orZ_one none))) (.inl rfl) (fun _ => hS3.out) ?_
      refine R_tk 15 11 hS3.out ?_
      refine R_tk 16 12 hS3.out ?_
      simp only [List.setIfInBounds_toArray, List.set_cons_zero, List.set_cons_succ]
      refine R_done (by kernel_rfl) ?_ _
      rename_i K9 hK9
      refine hK9 _ _ ?_
      clear hK9
      go_meet
      case rel => exact ⟨hca, rfl, rfl⟩
  case rest =>
  obtain ⟨⟨g10, rfl, hg10, hp7, hk7, hge7⟩, rfl, rfl⟩ := hcut
  obtain ⟨w6, rfl⟩ : ∃ x : World, x = wc := ⟨_, rfl⟩
  replace HI := Lib.hid ((HI.out.kept hk7).mono (K' := fun b => (fun b => (fun b => (fun b => b < w2.heap.size ∨ b = gP) b ∨ b = g4) b ∨ b = g7) b ∨ b = g10) (fun b hb => .inl hb))
  replace HP := Lib.hid hp7
  replace hbw3 := hbw3.trans (hk7.below (fun b hb => HK0.out b hb))
  replace HK0 := Lib.hid (show ∀ b, b < w.heap.size → (fun b => (fun b => (fun b => (fun b => b < w2.heap.size ∨ b = gP) b ∨ b = g4) b ∨ b = g7) b ∨ b = g10) b from fun b hb => .inl (HK0.out b hb))
  have Hg10 := Lib.hid hg10
  replace Hg4 := Lib.hid (Hg4.out.kept hk7 (.inl (.inr rfl)))
  replace Hg7 := Lib.hid (Hg7.out.kept hk7 (.inr rfl))
  clear hg10 hp7 hk7 hge7
  go_upto_region 8 with fail
  go_cut [13, 14, 15] (fun va vb ve wx => CallAt pg (fun b => (fun b => (fun b => (fun b => b < w2.heap.size ∨ b = gP) b ∨ b = g4) b ∨ b = g7) b ∨ b = g10) w6 gd gl gp (rwCs rw0).toArray va wx ∧ vb = .bool true ∧ ve = .int .i64 0)
  case first =>
    go_wp2_with fail
    have hS0 := Lib.hid (LawIn.s (i := 1) HI.out (by omega))
    refine R_begin (fun (W : World) => W.cell? ⟨gP, 2, none⟩ = some (ptr gp) ∧ W.cell? ⟨gv, 7, none⟩ = some (str (rw1).key) ∧ W.cell? ⟨gv, 8, none⟩ = some (.bool (rw1).mark) ∧ W.cell? ⟨gv, 9, none⟩ = some (.int .u64 (rw1).tx) ∧ W.cell? ⟨gv, 10, none⟩ = some (.int .u32 (rw1).page) ∧ W.cell? ⟨gv, 11, none⟩ = some (.int .u16 (rw1).slot) ∧ W.cell? ⟨gv, 12, none⟩ = some (str (rw1).value) ∧ W.cell? ⟨gv, 13, none⟩ = some (.int .i64 (rw1).pad)) (fun _ => false) rfl ?_
    refine R_tk 0 72 hS0.out ?_
    refine R_tk 1 73 hS0.out ?_
    refine R_tk 2 74 hS0.out ?_
    refine R_tk 3 75 hS0.out ?_
    refine R_tk 4 76 hS0.out ?_
    refine R_tk 5 77 hS0.out ?_
    refine R_tk 6 78 hS0.out ?_
    simp only [List.setIfInBounds_toArray, List.set_cons_zero, List.set_cons_succ]
    refine R_all (rs := [7, 12]) (by kernel_rfl) (by simp) (fun i hi => ?_)
    simp only [List.mem_cons, List.not_mem_nil, or_false] at hi
    rcases hi with rfl | rfl
    · skip
      have hc := HCB.out (fun b => (fun b => (fun b => (fun b => b < w2.heap.size ∨ b = gP) b ∨ b = g4) b ∨ b = g7) b ∨ b = g10) _ HP.out.drew
      refine op_call 79 (w' := w6.drew) rfl rfl (by rfl) ?_ hc ?_
      · go_simp
      rintro e v1 ⟨rfl, hk1, hp1⟩
      have hi1 := HI.out.kept (Kept.undrew hk1)
      have hS1 := Lib.hid (LawIn.s (i := 1) hi1 (by omega))
      refine ⟨_, rfl, fun _ => hS1.out, ?_⟩
      simp only [List.setIfInBounds_toArray, List.set_cons_zero, List.set_cons_succ]
      clear hc
      refine R_tk 8 71 hS1.out ?_
      refine R_tk 9 80 hS1.out ?_
      refine R_tk 10 81 hS1.out ?_
      refine R_tk 11 82 hS1.out ?_
      simp only [List.setIfInBounds_toArray, List.set_cons_zero, List.set_cons_succ]
      have hi2 := hi1.kept (Kept.of_below ((Below.refl v1.heap.size v1).alloc (Nat.le_refl _) (.cells rwZ 37)) hp1.lt)
      have hS2 := Lib.hid (LawIn.s (i := 1) hi2 (by omega))
      refine R_run 12 13 (v := ptr v1.heap.size) (w' := v1.alloc (.cells rwZ 37)) rfl rfl (by rfl) (by kernel_rfl) ?_ (fun _ => hS2.out) ?_
      · first | (go_simp; done) | (go_simp; rfl)
      simp only [List.setIfInBounds_toArray, List.set_cons_zero, List.set_cons_succ]
      have hn := Blk.new v1 37 rwZ
      have hca := callAt_1 (Kept.undrew hk1) hp1 ((rwCs rw0).toArray)
      have hS3 := Lib.hid (show (fun (W : World) => W.cell? ⟨gP, 2, none⟩ = some (ptr gp) ∧ W.cell? ⟨gv, 7, none⟩ = some (str (rw1).key) ∧ W.cell? ⟨gv, 8, none⟩ = some (.bool (rw1).mark) ∧ W.cell? ⟨gv, 9, none⟩ = some (.int .u64 (rw1).tx) ∧ W.cell? ⟨gv, 10, none⟩ = some (.int .u32 (rw1).page) ∧ W.cell? ⟨gv, 11, none⟩ = some (.int .u16 (rw1).slot) ∧ W.cell? ⟨gv, 12, none⟩ = some (str (rw1).value) ∧ W.cell? ⟨gv, 13, none⟩ = some (.int .i64 (rw1).pad)) _ from LawIn.s (i := 1) (HI.out.kept hca.choose_spec.2.2.2.1) (by omega))
      (try simp only [List.setIfInBounds_toArray, List.set_cons_zero, List.set_cons_succ])
      refine R_store 13 (n := .skip) (w' := (v1.alloc (.cells rwZ 37)).setRow v1.heap.size ((rwCs rw0).toArray)) rfl rfl (by rfl) (by kernel_rfl) (run_op_store _ _ _ _ _ rfl rfl rfl (row_store7 hn rfl (rw_one _))) (.inl rfl) (fun _ => hS3.out) ?_
      refine R_tk 14 14 hS3.out ?_
      refine R_tk 15 15 hS3.out ?_
      simp only [List.setIfInBounds_toArray, List.set_cons_zero, List.set_cons_succ]
      refine R_done (by kernel_rfl) ?_ _
      rename_i K9 hK9
      refine hK9 _ _ ?_
      clear hK9
      go_meet
      case rel => exact ⟨hca, rfl, rfl⟩
    · skip
      obtain ⟨hp1, hk1, hn1⟩ := callAt_0 HP.out
      have hi1 := HI.out.kept hk1
      have hS1 := Lib.hid (LawIn.s (i := 1) hi1 (by omega))
      refine op_run 13 (v := ptr w6.heap.size) (w' := w6.drew.alloc (.cells rwZ 37)) rfl rfl (by rfl) ?_ ⟨fun _ => hS1.out, ?_⟩
      · first | (go_simp; done) | (go_simp; rfl)
      simp only [List.setIfInBounds_toArray, List.set_cons_zero, List.set_cons_succ]
      have hc := HCB.out (fun b => (fun b => (fun b => (fun b => (fun b => b < w2.heap.size ∨ b = gP) b ∨ b = g4) b ∨ b = g7) b ∨ b = g10) b ∨ b = w6.heap.size) _ hp1
      refine R_call 7 79 (w' := w6.drew.alloc (.cells rwZ 37)) rfl rfl (by rfl) (by kernel_rfl) ?_ hc ?_
      · go_simp
      rintro e v2 ⟨rfl, hk2, hp2⟩
      have hi2 := hi1.kept (hk2.mono (fun b hb => .inl hb))
      have hS2 := Lib.hid (LawIn.s (i := 1) hi2 (by omega))
      refine ⟨_, rfl, fun _ => hS2.out, ?_⟩
      simp only [List.setIfInBounds_toArray, List.set_cons_zero, List.set_cons_succ]
      clear hc
      refine R_tk 8 71 hS2.out ?_
      refine R_tk 9 80 hS2.out ?_
      refine R_tk 10 81 hS2.out ?_
      refine R_tk 11 82 hS2.out ?_
      have hca := callAt_2 HP.out hk2 hp2 ((rwCs rw0).toArray)
      have hS3 := Lib.hid (show (fun (W : World) => W.cell? ⟨gP, 2, none⟩ = some (ptr gp) ∧ W.cell? ⟨gv, 7, none⟩ = some (str (rw1).key) ∧ W.cell? ⟨gv, 8, none⟩ = some (.bool (rw1).mark) ∧ W.cell? ⟨gv, 9, none⟩ = some (.int .u64 (rw1).tx) ∧ W.cell? ⟨gv, 10, none⟩ = some (.int .u32 (rw1).page) ∧ W.cell? ⟨gv, 11, none⟩ = some (.int .u16 (rw1).slot) ∧ W.cell? ⟨gv, 12, none⟩ = some (str (rw1).value) ∧ W.cell? ⟨gv, 13, none⟩ = some (.int .i64 (rw1).pad)) _ from LawIn.s (i := 1) (HI.out.kept hca.choose_spec.2.2.2.1) (by omega))
      (try simp only [List.setIfInBounds_toArray, List.set_cons_zero, List.set_cons_succ])
      refine R_store 13 (n := .skip) (w' := v2.setRow w6.heap.size ((rwCs rw0).toArray)) rfl rfl (by rfl) (by kernel_rfl) (run_op_store _ _ _ _ _ rfl rfl rfl (row_store7 (hn1.kept hk2 (.inr rfl)) rfl (rw_one _))) (.inl rfl) (fun _ => hS3.out) ?_
      refine R_tk 14 14 hS3.out ?_
      refine R_tk 15 15 hS3.out ?_
      simp only [List.setIfInBounds_toArray, List.set_cons_zero, List.set_cons_succ]
      refine R_done (by kernel_rfl) ?_ _
      rename_i K9 hK9
      refine hK9 _ _ ?_
      clear hK9
      go_meet
      case rel => exact ⟨hca, rfl, rfl⟩
  case rest =>
  obtain ⟨⟨g13, rfl, hg13, hp8, hk8, hge8⟩, rfl, rfl⟩ := hcut
  obtain ⟨w7, rfl⟩ : ∃ x : World, x = wc := ⟨_, rfl⟩
  replace HI := Lib.hid ((HI.out.kept hk8).mono (K' := fun b => (fun b => (fun b => (fun b => (fun b => b < w2.heap.size ∨ b = gP) b ∨ b = g4) b ∨ b = g7) b ∨ b = g10) b ∨ b = g13) (fun b hb => .inl hb))
  replace HP := Lib.hid hp8
  replace hbw3 := hbw3.trans (hk8.below (fun b hb => HK0.out b hb))
  replace HK0 := Lib.hid (show ∀ b, b < w.heap.size → (fun b => (fun b => (fun b => (fun b => (fun b => b < w2.heap.size ∨ b = gP) b ∨ b = g4) b ∨ b = g7) b ∨ b = g10) b ∨ b = g13) b from fun b hb => .inl (HK0.out b hb))
  have Hg13 := Lib.hid hg13
  replace Hg4 := Lib.hid (Hg4.out.kept hk8 (.inl (.inl (.inr rfl))))
  replace Hg7 := Lib.hid (Hg7.out.kept hk8 (.inl (.inr rfl)))
  replace Hg10 := Lib.hid (Hg10.out.kept hk8 (.inr rfl))
  clear hg13 hp8 hk8 hge8
  have s1 : (fun (W : World) => W.cell? ⟨gP, 2, none⟩ = some (ptr gp) ∧ W.cell? ⟨gv, 7, none⟩ = some (str (rw1).key) ∧ W.cell? ⟨gv, 8, none⟩ = some (.bool (rw1).mark) ∧ W.cell? ⟨gv, 9, none⟩ = some (.int .u64 (rw1).tx) ∧ W.cell? ⟨gv, 10, none⟩ = some (.int .u32 (rw1).page) ∧ W.cell? ⟨gv, 11, none⟩ = some (.int .u16 (rw1).slot) ∧ W.cell? ⟨gv, 12, none⟩ = some (str (rw1).value) ∧ W.cell? ⟨gv, 13, none⟩ = some (.int .i64 (rw1).pad)) w7 := LawIn.s (i := 1) HI.out (by omega)
  have s0 : (fun (W : World) => W.cell? ⟨gP, 2, none⟩ = some (ptr gp) ∧ W.cell? ⟨gv, 0, none⟩ = some (str (rw0).key) ∧ W.cell? ⟨gv, 1, none⟩ = some (.bool (rw0).mark) ∧ W.cell? ⟨gv, 2, none⟩ = some (.int .u64 (rw0).tx) ∧ W.cell? ⟨gv, 3, none⟩ = some (.int .u32 (rw0).page) ∧ W.cell? ⟨gv, 4, none⟩ = some (.int .u16 (rw0).slot) ∧ W.cell? ⟨gv, 5, none⟩ = some (str (rw0).value) ∧ W.cell? ⟨gv, 6, none⟩ = some (.int .i64 (rw0).pad)) w7 := LawIn.s (i := 0) HI.out (by omega)
  dsimp only at s0 s1
  obtain ⟨a2, a0, a1, a3, a4, a5, a6, a7⟩ := s1
  obtain ⟨b2, b0, b1, b3, b4, b5, b6, b7⟩ := s0
  obtain ⟨c0, c1, c2, c3, c4, c5, c6⟩ := vrow_cells Hg4.out
  obtain ⟨d0, d1, d2, d3, d4, d5, d6⟩ := vrow_cells Hg7.out
  obtain ⟨e0, e1, e2, e3, e4, e5, e6⟩ := vrow_cells Hg13.out
  clear a2 b2 HI HP HC9 HC3 HC1 HCB Hg4 Hg7 Hg10 Hg13 HK0
  have HBW := Lib.hid hbw3
  clear hbw3
  go_wp2_with fail
  go_quiet (fail)
  go_wp2_with fail
  go_ret
  exact ⟨rfl, HBW.out.os, HBW.out.tape, HBW.out.output, HBW.out.size, HBW.out.block⟩
end Go.Proofs.YtphkggcdfkcidaaGreat

/- Arguments opened: what each part weighs, structs by field, slices of strings as lists. No program is named here. -/
namespace Go.Proofs.YtphkggcdfkcidaaGreat
open Go.ChangeShapes Go.WideShapes Go.ChangeAt Go.RowKit Go.Deep

section
variable {H : Type} {enc : TypeId × Value → H} {P : Program} {w : World}

/-- Each part within the reach. -/
def Small (P : Program) (t : TypeId) (d : DataW H) : Prop := ∀ n ∈ d.weights P t, n ≤ reachBytes

theorem small_arg {ts : List TypeId} {ds : List (DataW H)} (h : (DataW.weightsEach P ts ds).all (· ≤ reachBytes) = true) {j : Nat} {t : TypeId} {d : DataW H} (ht : ts[j]? = some t) (hd : ds[j]? = some d) : Small P t d := fun n hn => by
  simpa using List.all_eq_true.1 h n (DataW.weights_mem_each ht hd n hn)
theorem small_field {t : TypeId} {fs : Array Field} (hs : P.underlying t = some (.struct fs)) {parts : List (DataW H)} (h : Small P t (.agg parts)) {j : Nat} {f : Field} {d : DataW H} (hf : fs[j]? = some f) (hd : parts[j]? = some d) : Small P f.type d := fun n hn => by
  refine h n ?_
  simp only [DataW.weights, hs]
  exact DataW.weights_mem_each (j := j) (by rw [List.getElem?_map, Array.getElem?_toList, hf]; rfl) hd n hn
theorem mem_weightsAll {e : TypeId} : ∀ {ds : List (DataW H)} {d : DataW H}, d ∈ ds → ∀ n ∈ d.weights P e, n ∈ DataW.weightsAll P e ds
  | x :: ds, d, hd, n, hn => by
    simp only [DataW.weightsAll, List.mem_append]
    rcases List.mem_cons.1 hd with rfl | hd
    · exact .inl hn
    · exact .inr (mem_weightsAll hd n hn)
theorem small_elem {t e : TypeId} (hs : P.underlying t = some (.slice e)) {elems spare : List (DataW H)} (h : Small P t (.slice elems spare)) {d : DataW H} (hd : d ∈ elems) : Small P e d := fun n hn => by
  refine h n ?_
  simp only [DataW.weights, hs, List.mem_cons, List.mem_append]
  exact .inr (.inl (mem_weightsAll hd n hn))
theorem small_slice {t e : TypeId} (hs : P.underlying t = some (.slice e)) {elems spare : List (DataW H)} (h : Small P t (.slice elems spare)) : (elems.length + spare.length) * P.bytesOf e ≤ 140737488351232 :=
  h _ (by simp [DataW.weights, hs])
theorem small_string {t : TypeId} {bytes : List UInt8} (h : Small P t (.lit (.string bytes) : DataW H)) : bytes.length ≤ 140737488351232 := h _ (by simp [DataW.weights])

/-- A struct by its fields. -/
theorem fields_opened {t : TypeId} {fs : Array Field} {fuel : Nat} {cs : List Value} {x : DataW H × List MemPlace} (ht : P.underlying t = some (.struct fs)) (h : DataW.trod enc P w 0 (fun _ => true) true fuel t cs = some x) :
    cs.length = P.cellsOf t ∧ ∃ (ys : List (DataW H × List MemPlace)) (n : Nat), x.1 = .agg (ys.map (·.1)) ∧ ∀ (j : Nat) (f : Field), fs[j]? = some f → ∃ y, ys[j]? = some y ∧ (ys.map (·.1))[j]? = some y.1 ∧ DataW.trod enc P w 0 (fun _ => true) true n f.type ((cs.drop f.offset).take (P.cellsOf f.type)) = some y := by
  obtain ⟨ys, n, _, rfl, hl, hlen, hf⟩ := DataW.trod_struct ht h
  refine ⟨hl, ys, n, rfl, fun j f hj => ?_⟩
  have hjl : j < ys.length := by rw [hlen]; exact (Array.getElem?_eq_some_iff.1 hj).1
  have hy : ys[j]? = some ys[j] := List.getElem?_eq_getElem hjl
  exact ⟨ys[j], hy, by rw [List.getElem?_map, hy]; rfl, (hf j f hj).trans hy⟩

/-- A slice of strings. -/
theorem strings_opened {t e : TypeId} {fuel : Nat} {v : Value} {x : DataW H × List MemPlace} (ht : P.underlying t = some (.slice e)) (he : P.underlying e = some .string) (hc : P.cellsOf e = 1) (hb : P.bytesOf e = 16)
    (h : DataW.trod enc P w 0 (fun _ => true) true fuel t [v] = some x) (hs : Small P t x.1) :
    ∃ (A : Option Addr) (c : Nat) (rows : List ByteArray), v = .slice A rows.length c ∧ Reads (fun b => b < w.heap.size) w 1 A rows.length (rows.map Value.string) ∧ rows.length * 16 ≤ 140737488351232 ∧ ∀ s ∈ rows, s.size ≤ 140737488351232 := by
  rcases open_strings ht he hc h with ⟨hcs, hx⟩ | ⟨a, len, cap, ss, hcs, _, hl, hm, hz, hx, hcl, _⟩
  · obtain rfl : v = _ := by simpa using hcs
    exact ⟨none, 0, [], rfl, Reads.none_, by simp, by simp⟩
  · obtain rfl : v = _ := by simpa using hcs
    have hz' : ss.length = cap := by simpa using hz
    have hll : (ss.take len).length = len := by simp; omega
    rw [hx] at hs
    have hsz := small_slice ht hs
    rw [hb] at hsz
    simp only [strs, List.length_map] at hsz
    have hsm : ∀ s ∈ ss.take len, s.size ≤ 140737488351232 := fun s hm => by
      have := small_string (small_elem ht hs (d := .lit (.string s.data.toList)) (List.mem_map.2 ⟨s, hm, rfl⟩))
      simpa using this
    refine ⟨some a, cap, ss.take len, by rw [hll], ⟨by simp, fun hn => ?_⟩, by simp at hsz ⊢; omega, hsm⟩
    rw [hll] at hn
    have h0 := hcl 0 (by omega)
    obtain ⟨b, off, spot⟩ := a
    have hspot : spot = none := by simpa [Addr.add] using World.cell?_spot h0
    subst hspot
    refine ⟨b, off, rfl, World.block_lt_of_cell? w _ h0, World.block_lt_of_cell? w _ h0, fun j u hu => ?_⟩
    have hj : j < len := by
      have := (List.getElem?_eq_some_iff.1 hu).1
      simp at this; omega
    have e1 : (⟨b, off, none⟩ : Addr).add j = ⟨b, off + j, none⟩ := by cases j <;> simp [Addr.add]
    rw [← e1, hcl j (by omega)]
    rw [List.getElem?_map, List.getElem?_take, if_pos hj, List.getElem?_eq_getElem (by omega)] at hu
    rw [← hu]
    simp
    rw [List.getElem?_eq_getElem (by omega)]
    rfl
end
end Go.Proofs.YtphkggcdfkcidaaGreat

/- The arguments of the laws of the package pentimentolaw26 opened: changes, views. -/
namespace Go.Proofs.YtphkggcdfkcidaaGreat
open Go.ChangeShapes Go.WideShapes Go.ChangeAt Go.RowKit Go.Deep

instance : Inhabited Sp.Stp := ⟨⟨0, false, []⟩⟩
theorem u8_nat {n : Int} (h : (Lit.int .u8 n).wf = true) : ∃ m : Nat, n = (m : Int) ∧ m < 256 := by
  simp [Lit.wf, IntKind.min, IntKind.max, IntKind.signed, IntKind.bits] at h
  exact ⟨n.toNat, by omega, by omega⟩
theorem u64_nat {n : Int} (h : (Lit.int .u64 n).wf = true) : ∃ m : Nat, n = (m : Int) ∧ m < 18446744073709551616 := by
  simp [Lit.wf, IntKind.min, IntKind.max, IntKind.signed, IntKind.bits] at h
  exact ⟨n.toNat, by omega, by omega⟩
theorem str_of (s : ByteArray) : Value.string s = str s.data.toList := by simp [str]

set_option maxRecDepth 100000 in
/-- A change, opened. -/
theorem step_opened {H : Type} {enc : TypeId × Value → H} {w : World} {fuel : Nat} {cs : List Value} {x : DataW H × List MemPlace} (h : DataW.trod enc Tryz.prog w 0 (fun _ => true) true fuel 69 cs = some x) (hs : Small Tryz.prog 69 x.1) :
    ∃ s : Sp.Stp, cs = stpCs s ∧ s.tx < 256 ∧ s.s.length ≤ 140737488351232 := by
  obtain ⟨hl, ys, n, hx, hf⟩ := fields_opened Tryz.underlying69 h
  rw [show Tryz.prog.cellsOf 69 = 3 by kernel_rfl] at hl
  match cs, hl with
  | [v0, v1, v2], _ =>
    obtain ⟨y0, _, _, h0⟩ := hf 0 _ rfl
    obtain ⟨y1, _, _, h1⟩ := hf 1 _ rfl
    obtain ⟨y2, _, hy2, h2⟩ := hf 2 _ rfl
    rw [hx] at hs
    have hs2 := small_field Tryz.underlying69 hs (j := 2) rfl hy2
    have c8 : Tryz.prog.cellsOf 5 = 1 := by kernel_rfl
    have cb : Tryz.prog.cellsOf 4 = 1 := by kernel_rfl
    have cs1 : Tryz.prog.cellsOf 9 = 1 := by kernel_rfl
    replace h0 : DataW.trod enc Tryz.prog w 0 (fun _ => true) true n 5 [v0] = some y0 := by rw [← h0]; show _ = DataW.trod _ _ _ _ _ _ _ _ (List.take (Tryz.prog.cellsOf 5) _); rw [c8]; rfl
    replace h1 : DataW.trod enc Tryz.prog w 0 (fun _ => true) true n 4 [v1] = some y1 := by rw [← h1]; show _ = DataW.trod _ _ _ _ _ _ _ _ (List.take (Tryz.prog.cellsOf 4) _); rw [cb]; rfl
    replace h2 : DataW.trod enc Tryz.prog w 0 (fun _ => true) true n 9 [v2] = some y2 := by rw [← h2]; show _ = DataW.trod _ _ _ _ _ _ _ _ (List.take (Tryz.prog.cellsOf 9) _); rw [cs1]; rfl
    obtain ⟨k, e0, _, w0⟩ := DataW.trod_int Tryz.underlying5 h0
    obtain ⟨b, e1, _⟩ := DataW.trod_bool Tryz.underlying4 h1
    obtain ⟨s, e2, ey, _⟩ := DataW.trod_string Tryz.underlying9 h2
    simp at e0 e1 e2
    obtain ⟨m, rfl, hm⟩ := u8_nat w0
    rw [ey] at hs2
    have hsz := small_string hs2
    subst e0 e1 e2
    exact ⟨⟨m, b, s.data.toList⟩, by simp [stpCs, str], hm, hsz⟩

set_option maxRecDepth 100000 in
/-- A list of changes, opened. -/
theorem steps_opened {H : Type} {enc : TypeId × Value → H} {w : World} {fuel : Nat} {v : Value} {x : DataW H × List MemPlace} (h : DataW.trod enc Tryz.prog w 0 (fun _ => true) true fuel 22 [v] = some x) (hs : Small Tryz.prog 22 x.1) :
    ∃ (A : Option Addr) (c : Nat) (l : List Sp.Stp), v = .slice A l.length c ∧ StpsAt (fun b => b < w.heap.size) w A l ∧ l.length ≤ 140737488351232 ∧ ∀ s ∈ l, s.tx < 256 ∧ s.s.length ≤ 140737488351232 := by
  rcases open_slice Tryz.underlying22 h with ⟨hcs, _⟩ | ⟨a, len, cap, m, n, D, Pl, hcs, _, hl, hm, hmm, hx, hc⟩
  · obtain rfl : v = _ := by simpa using hcs
    exact ⟨none, 0, [], rfl, ⟨rfl, fun h => absurd h (by simp)⟩, by simp, by simp⟩
  · obtain rfl : v = _ := by simpa using hcs
    have hlm : len ≤ m := by rw [hmm]; split <;> omega
    rw [hx] at hs
    have hsz := small_slice Tryz.underlying22 hs
    rw [show Tryz.prog.bytesOf 69 = 24 by kernel_rfl] at hsz
    simp only [List.length_map, List.length_range] at hsz
    have c3 : Tryz.prog.cellsOf 69 = 3 := by kernel_rfl
    obtain ⟨S, hS⟩ := choose_lt (α := Sp.Stp) (n := len) (p := fun i s => w.cells? 0 (a.add (i * 3)) 3 = some (stpCs s) ∧ s.tx < 256 ∧ s.s.length ≤ 140737488351232) (fun i hi => by
      obtain ⟨cs', h1, h2⟩ := hc i (by omega)
      have hsi := small_elem Tryz.underlying22 hs (d := D i) (List.mem_map.2 ⟨i, List.mem_range.2 hi, rfl⟩)
      obtain ⟨s, rfl, q1, q2⟩ := step_opened h2 hsi
      rw [c3] at h1
      exact ⟨s, h1, q1, q2⟩)
    refine ⟨some a, cap, (List.range len).map S, by simp, ⟨by rw [stpsC_length], fun hn => ?_⟩, by simp; omega, fun s hm => ?_⟩
    · simp at hn
      obtain ⟨b, off, spot⟩ := a
      obtain ⟨_, _, hc0⟩ := World.cells?_some (hS 0 hn).1
      have k0 := hc0 0 (by omega)
      have k0' : w.cell? ((⟨b, off, spot⟩ : Addr)) = some (.int .u8 (S 0).tx) := by simpa [Addr.add, stpCs] using k0
      have hspot : spot = none := by simpa using World.cell?_spot k0'
      subst hspot
      refine ⟨b, off, rfl, World.block_lt_of_cell? w _ k0', World.block_lt_of_cell? w _ k0', fun j u hu => ?_⟩
      have hj : j < len * 3 := by
        have := (List.getElem?_eq_some_iff.1 hu).1
        rw [stpsC_length] at this; simpa using this
      have ej : j = j / 3 * 3 + j % 3 := by omega
      rw [ej, stpsC_get _ (j / 3) (j % 3) (by simp; omega) (by omega)] at hu
      simp only [List.getElem_map, List.getElem_range] at hu
      obtain ⟨_, _, hcj⟩ := World.cells?_some (hS (j / 3) (by omega)).1
      have := hcj (j % 3) (by omega)
      rw [add_add] at this
      have e2 : (⟨b, off, none⟩ : Addr).add (j / 3 * 3 + j % 3) = ⟨b, off + j, none⟩ := by rw [← ej]; cases j <;> simp [Addr.add]
      rw [e2, hu] at this
      exact this
    · obtain ⟨i, hi, rfl⟩ := List.mem_map.1 hm
      exact (hS i (by simpa using hi)).2

set_option maxRecDepth 100000 in
/-- A view, opened. -/
theorem view_opened {H : Type} {enc : TypeId × Value → H} {w : World} {fuel : Nat} {cs : List Value} {x : DataW H × List MemPlace} (h : DataW.trod enc Tryz.prog w 0 (fun _ => true) true fuel 59 cs = some x) (hs : Small Tryz.prog 59 x.1) :
    ∃ (own next : Nat) (A : Option Addr) (c : Nat) (xs : List Nat), cs = [.int .u64 own, .int .u64 next, .slice A xs.length c] ∧ own < 18446744073709551616 ∧ next < 18446744073709551616 ∧ U64s (fun b => b < w.heap.size) w A xs ∧ xs.length ≤ 140737488351232 ∧ ∀ n ∈ xs, n < 18446744073709551616 := by
  obtain ⟨hl, ys, n, hx, hf⟩ := fields_opened Tryz.underlying59 h
  rw [show Tryz.prog.cellsOf 59 = 3 by kernel_rfl] at hl
  match cs, hl with
  | [v0, v1, v2], _ =>
    obtain ⟨y0, _, _, h0⟩ := hf 0 _ rfl
    obtain ⟨y1, _, _, h1⟩ := hf 1 _ rfl
    obtain ⟨y2, _, hy2, h2⟩ := hf 2 _ rfl
    rw [hx] at hs
    have hs2 := small_field Tryz.underlying59 hs (j := 2) rfl hy2
    have c64 : Tryz.prog.cellsOf 27 = 1 := by kernel_rfl
    have cs1 : Tryz.prog.cellsOf 57 = 1 := by kernel_rfl
    replace h0 : DataW.trod enc Tryz.prog w 0 (fun _ => true) true n 27 [v0] = some y0 := by rw [← h0]; show _ = DataW.trod _ _ _ _ _ _ _ _ (List.take (Tryz.prog.cellsOf 27) _); rw [c64]; rfl
    replace h1 : DataW.trod enc Tryz.prog w 0 (fun _ => true) true n 27 [v1] = some y1 := by rw [← h1]; show _ = DataW.trod _ _ _ _ _ _ _ _ (List.take (Tryz.prog.cellsOf 27) _); rw [c64]; rfl
    replace h2 : DataW.trod enc Tryz.prog w 0 (fun _ => true) true n 57 [v2] = some y2 := by rw [← h2]; show _ = DataW.trod _ _ _ _ _ _ _ _ (List.take (Tryz.prog.cellsOf 57) _); rw [cs1]; rfl
    obtain ⟨a, e0, _, w0⟩ := DataW.trod_int Tryz.underlying27 h0
    obtain ⟨b, e1, _, w1⟩ := DataW.trod_int Tryz.underlying27 h1
    obtain ⟨own, rfl, ho⟩ := u64_nat w0
    obtain ⟨next, rfl, hn⟩ := u64_nat w1
    simp at e0 e1
    subst e0 e1
    rcases open_slice Tryz.underlying57 h2 with ⟨hcs, _⟩ | ⟨a, len, cap, m, n', D, Pl, hcs, _, hl, hm, hmm, hx2, hc⟩
    · obtain rfl : v2 = _ := by simpa using hcs
      exact ⟨own, next, none, 0, [], rfl, ho, hn, Reads.none_, by simp, by simp⟩
    · obtain rfl : v2 = _ := by simpa using hcs
      have hlm : len ≤ m := by rw [hmm]; split <;> omega
      rw [hx2] at hs2
      have hsz := small_slice Tryz.underlying57 hs2
      rw [show Tryz.prog.bytesOf 27 = 8 by kernel_rfl] at hsz
      simp only [List.length_map, List.length_range] at hsz
      obtain ⟨S, hS⟩ := choose_lt (α := Nat) (n := len) (p := fun i s => w.cell? (a.add i) = some (.int .u64 s) ∧ s < 18446744073709551616) (fun i hi => by
        obtain ⟨cs', h1, h2⟩ := hc i (by omega)
        rw [c64, Nat.mul_one] at h1
        obtain ⟨z, rfl, _, wz⟩ := DataW.trod_int Tryz.underlying27 h2
        obtain ⟨s, rfl, hs⟩ := u64_nat wz
        exact ⟨s, cell_of_cells?_one h1, hs⟩)
      refine ⟨own, next, some a, cap, (List.range len).map S, by simp, ho, hn, ⟨by simp, fun hn => ?_⟩, by simp; omega, fun s hm => ?_⟩
      · simp at hn
        obtain ⟨b, off, spot⟩ := a
        have k0 := (hS 0 hn).1
        have hspot : spot = none := by simpa [Addr.add] using World.cell?_spot k0
        subst hspot
        refine ⟨b, off, rfl, World.block_lt_of_cell? w _ k0, World.block_lt_of_cell? w _ k0, fun j u hu => ?_⟩
        have hj : j < len := by
          have := (List.getElem?_eq_some_iff.1 hu).1
          simpa using this
        have e1 : (⟨b, off, none⟩ : Addr).add j = ⟨b, off + j, none⟩ := by cases j <;> simp [Addr.add]
        rw [← e1, (hS j hj).1]
        rw [← hu]
        simp
        rw [List.getElem?_range hj]
        rfl
      · obtain ⟨i, hi, rfl⟩ := List.mem_map.1 hm
        exact (hS i (by simpa using hi)).2
end Go.Proofs.YtphkggcdfkcidaaGreat

/- More arguments of the laws of the package pentimentolaw26 opened: five of them, a Roll. -/
namespace Go.Proofs.YtphkggcdfkcidaaGreat
open Go.ChangeShapes Go.WideShapes Go.ChangeAt Go.RowKit Go.Deep

theorem u32_nat {n : Int} (h : (Lit.int .u32 n).wf = true) : ∃ m : Nat, n = (m : Int) ∧ m < 4294967296 := by
  simp [Lit.wf, IntKind.min, IntKind.max, IntKind.signed, IntKind.bits] at h
  exact ⟨n.toNat, by omega, by omega⟩
theorem u16_nat {n : Int} (h : (Lit.int .u16 n).wf = true) : ∃ m : Nat, n = (m : Int) ∧ m < 65536 := by
  simp [Lit.wf, IntKind.min, IntKind.max, IntKind.signed, IntKind.bits] at h
  exact ⟨n.toNat, by omega, by omega⟩
section
variable {H : Type} {enc : TypeId × Value → H} {P : Program} {w : World} {base : Nat} {spare : Nat → Bool} {held : Bool}
theorem trodAll_five {t t' t'' t3 t4 : TypeId} {args : Array Value} {ds : List (DataW H)} {ps : List MemPlace} (h : DataW.TrodAll enc P w base spare held [t, t', t'', t3, t4] args.toList ds ps) :
    ∃ v v' v'' v3 v4 d d' d'' d3 d4 p p' p'' p3 p4, args = #[v, v', v'', v3, v4] ∧ ds = [d, d', d'', d3, d4] ∧ ps = p ++ (p' ++ (p'' ++ (p3 ++ p4))) ∧ DataW.Trod enc P w base spare held t v d p ∧ DataW.Trod enc P w base spare held t' v' d' p' ∧ DataW.Trod enc P w base spare held t'' v'' d'' p'' ∧ DataW.Trod enc P w base spare held t3 v3 d3 p3 ∧ DataW.Trod enc P w base spare held t4 v4 d4 p4 := by
  obtain ⟨v, vs, d, ds', p, q, hargs, rfl, rfl, hd, hrest⟩ := trodAll_cons h
  obtain ⟨v', vs', d', ds'', p', q', rfl, rfl, rfl, hd', hrest'⟩ := trodAll_cons hrest
  obtain ⟨v'', vs'', d'', ds''', p'', q'', rfl, rfl, rfl, hd'', hrest''⟩ := trodAll_cons hrest'
  obtain ⟨v3, vs3, d3, ds3, p3, q3, rfl, rfl, rfl, hd3, hrest3⟩ := trodAll_cons hrest''
  obtain ⟨v4, vs4, d4, ds4, p4, q4, rfl, rfl, rfl, hd4, hrest4⟩ := trodAll_cons hrest3
  obtain ⟨rfl, rfl, rfl⟩ := trodAll_nil hrest4
  exact ⟨v, v', v'', v3, v4, d, d', d'', d3, d4, p, p', p'', p3, p4, by cases args; simp_all, rfl, by simp, hd, hd', hd'', hd3, hd4⟩
end

set_option maxRecDepth 100000 in
/-- A Roll, opened. -/
theorem roll_opened {H : Type} {enc : TypeId × Value → H} {w : World} {fuel : Nat} {cs : List Value} {x : DataW H × List MemPlace} (h : DataW.trod enc Tryz.prog w 0 (fun _ => true) true fuel 26 cs = some x) :
    ∃ q s : Nat, cs = [.int .u32 q, .int .u16 s] ∧ q < 4294967296 ∧ s < 65536 := by
  obtain ⟨hl, ys, n, hx, hf⟩ := fields_opened Tryz.underlying26 h
  rw [show Tryz.prog.cellsOf 26 = 2 by kernel_rfl] at hl
  match cs, hl with
  | [v0, v1], _ =>
    obtain ⟨y0, _, _, h0⟩ := hf 0 _ rfl
    obtain ⟨y1, _, _, h1⟩ := hf 1 _ rfl
    have c32 : Tryz.prog.cellsOf 23 = 1 := by kernel_rfl
    have c16 : Tryz.prog.cellsOf 24 = 1 := by kernel_rfl
    replace h0 : DataW.trod enc Tryz.prog w 0 (fun _ => true) true n 23 [v0] = some y0 := by rw [← h0]; show _ = DataW.trod _ _ _ _ _ _ _ _ (List.take (Tryz.prog.cellsOf 23) _); rw [c32]; rfl
    replace h1 : DataW.trod enc Tryz.prog w 0 (fun _ => true) true n 24 [v1] = some y1 := by rw [← h1]; show _ = DataW.trod _ _ _ _ _ _ _ _ (List.take (Tryz.prog.cellsOf 24) _); rw [c16]; rfl
    obtain ⟨a, e0, _, w0⟩ := DataW.trod_int Tryz.underlying23 h0
    obtain ⟨b, e1, _, w1⟩ := DataW.trod_int Tryz.underlying24 h1
    obtain ⟨q, rfl, hq⟩ := u32_nat w0
    obtain ⟨s, rfl, hs⟩ := u16_nat w1
    simp at e0 e1
    subst e0 e1
    exact ⟨q, s, rfl, hq, hs⟩
end Go.Proofs.YtphkggcdfkcidaaGreat

/- The last step of a law's row, once for all laws: a law that answers true and turns nothing that was there meets its row. -/
namespace Go.Proofs.YtphkggcdfkcidaaGreat
open Go.ChangeShapes Go.WideShapes Go.ChangeAt Go.RowKit

section
variable {H : Type} {enc : TypeId × Value → H} {P : Program}

theorem trodAll_stays (hl : laidOutB P = true) {W W' : World} {sp : Nat → Bool} : ∀ {ts : List TypeId} {vs : List Value} {ds : List (DataW H)} {ps : List MemPlace},
    (∀ t ∈ ts, P.readableRec t = true ∧ t < P.types.size) → DataW.TrodAll enc P W 0 (fun _ => true) true ts vs ds ps →
    (∀ x ∈ ps, W.sameAt W' x) → (∀ x ∈ ps, sp x.block = true) → DataW.TrodAll enc P W' 0 sp true ts vs ds ps
  | [], _, _, _, _, h, _, _ => by
    obtain ⟨rfl, rfl, rfl⟩ := trodAll_nil h
    exact trodAll_mk0
  | t :: ts, _, _, _, hr, h, hs, hp => by
    obtain ⟨v, vs1, d, ds1, a, b, rfl, rfl, rfl, h1, h2⟩ := trodAll_cons h
    refine ⟨a, b, WideElems.Trod_stays hl (hr t (by simp)).1 (hr t (by simp)).2 h1 (fun x hx => hs x (by simp [hx])) (fun x hx => hp x (by simp [hx])), ?_, rfl⟩
    exact trodAll_stays hl (fun t' ht' => hr t' (by simp [ht'])) h2 (fun x hx => hs x (by simp [hx])) (fun x hx => hp x (by simp [hx]))

theorem law_post {f : Func} {s : ChangeSpec} {apart fresh handsOn : Bool} {W W' : World} {args : Array Value} {ds : List (DataW H)} {before : List MemPlace} {TB : TypeId}
    (hl : laidOutB P = true) (hr : ∀ t ∈ f.params.toList, P.readableRec t = true ∧ t < P.types.size) (hB : P.underlying TB = some .bool) (hrt : f.resultTypes = #[TB]) (hv : s.vars = [])
    (hW : DataW.Whole enc P f.params.toList s.vars apart W args.toList ds [] before)
    (hfn : s.fn H (ds ++ []) = { results := [.lit (.bool true)], args := ds }) (hb : Below W.heap.size W W') :
    s.post enc P f apart fresh handsOn false W args (.bool true) W' := by
  have hlt : ∀ p ∈ before, p.block < W.heap.size := fun p hp => hW.lt p hp
  have hold : ∀ p ∈ before, (fun b => decide (b < W.heap.size)) p.block = true := fun p hp => by simpa using hlt p hp
  have hW' := hW
  obtain ⟨p, q, hA, hV, rfl, _, _⟩ := hW
  rw [hv] at hV
  obtain ⟨_, rfl⟩ := trodVars_none hV
  have hres : ∀ (b : Nat) (sp : Nat → Bool) (hd : Bool), DataW.TrodAll enc P W' b sp hd f.resultTypes.toList ((Value.bool true).resultList f.resultTypes.size) (s.fn H (ds ++ [])).results [] := fun b sp hd => by
    rw [hfn, hrt]
    exact trodAll_mk1 (shut_bool hB true)
  refine ⟨ds, [], _, [], p, [], hW', hres _ _ _, ?_, ?_, World.keptBut_mono (fun x hx => ⟨hx, ?_⟩) (hb.frame (· ∈ p ++ [])), fun h => by cases h⟩
  · rw [hfn]
    exact trodAll_stays hl hr hA (fun x hx => hb.same (hlt x (by simp [hx]))) (fun x hx => hold x (by simp [hx]))
  · rw [hfn, hv]
    exact rfl
  · simp only [List.append_nil] at hx
    exact Or.inr (Or.inl hx)
end
end Go.Proofs.YtphkggcdfkcidaaGreat

/- What PastOlder's law rests on: which version is seen below a number, and how rows compare. -/
namespace Go.Proofs.YtphkggcdfkcidaaGreat
open Go.RowKit Go.Conc

/-- The version that is seen, by its place: p = 0, if none is. -/
structure Sp.SeenAt (row : Nat → Sp.Rw) (sees : Nat → Bool) (k p : Nat) : Prop where
  le : p ≤ k + 1
  is : Sp.seeAt row sees k = if p = 0 then none else some (row (p - 1))
  un : ∀ m, p ≤ m → m ≤ k → sees (row m).tx = false
  at_ : 0 < p → sees (row (p - 1)).tx = true
theorem Sp.seen_at {row : Nat → Sp.Rw} (sees : Nat → Bool) : ∀ k, (∀ i, i ≤ k → (row i).mark = false) → ∃ p, Sp.SeenAt row sees k p
  | k, hm => by
    cases hs : sees (row k).tx with
    | true => exact ⟨k + 1, Nat.le_refl _, by rw [Sp.seeAt_at _ _ _ hs, hm k (Nat.le_refl _)]; simp, fun m h1 h2 => by omega, fun _ => by simpa using hs⟩
    | false =>
      cases k with
      | zero => exact ⟨0, by omega, by rw [Sp.seeAt_none _ _ _ (fun m h1 h2 => by obtain rfl : m = 0 := by omega
                                                                                  exact hs)]; rfl, fun m h1 h2 => by obtain rfl : m = 0 := by omega
                                                                                                                     exact hs, fun h => by omega⟩
      | succ k =>
        obtain ⟨p, h⟩ := Sp.seen_at sees k (fun i hi => hm i (by omega))
        refine ⟨p, by have := h.le; omega, ?_, fun m h1 h2 => ?_, h.at_⟩
        · rw [← h.is]
          exact Sp.seeAt_skip _ _ k (k + 1) (by omega) (fun m h1 h2 => by obtain rfl : m = k + 1 := by omega
                                                                          exact hs)
        · by_cases e : m = k + 1
          · rw [e]; exact hs
          · exact h.un m h1 (by omega)
theorem Sp.seen_le {row : Nat → Sp.Rw} {s s' : Nat → Bool} {k p q : Nat} (h : Sp.SeenAt row s k p) (h' : Sp.SeenAt row s' k q) (hs : ∀ tx, s tx = true → s' tx = true) : p ≤ q := by
  by_cases e : p ≤ q
  · exact e
  · have h1 := h'.un (p - 1) (by omega) (by have := h.le; omega)
    rw [hs _ (h.at_ (by omega))] at h1
    exact absurd h1 (by simp)
theorem Sp.sees_mono {m M tx : Nat} (h : m ≤ M) (hs : Sp.sees 0 m [] tx = true) : Sp.sees 0 M [] tx = true := by
  simp [Sp.sees] at hs ⊢; omega
theorem Sp.sees_all {M tx : Nat} (h1 : 1 ≤ tx) (h : tx < M) : Sp.sees 0 M [] tx = true := by
  simp [Sp.sees]; omega
theorem Sp.stRow_tx {key : Sp.Bs} {l : List Sp.Stp} {i : Nat} (hi : i < l.length) : 1 ≤ (Sp.stRow key l i).tx ∧ (Sp.stRow key l i).tx < 100 := by
  unfold Sp.stRow
  rw [List.getElem?_eq_getElem hi]
  simp only [Sp.Stp.txOf]
  omega
theorem Sp.stRow_ne {key : Sp.Bs} {l : List Sp.Stp} {i j : Nat} (hi : i < l.length) (hj : j < l.length) (h : Sp.stRow key l i = Sp.stRow key l j) : i = j := by
  unfold Sp.stRow at h
  rw [List.getElem?_eq_getElem hi, List.getElem?_eq_getElem hj] at h
  have h1 : i / 2 + 1 = j / 2 + 1 := congrArg Sp.Rw.page h
  have h2 : i % 2 = j % 2 := congrArg Sp.Rw.slot h
  omega

/-- The law's play and rows, and a row in a block of its own. -/
structure LawO (K : Foot) (W : World) (gP gd gl gp gr gv n : Nat) (f : Nat → Sp.Rw) (gR : Nat) (r : Sp.Rw) : Prop where
  i : LawIn K W gP gd gl gp gr gv n f
  r : Blk W gR 37 (rwCs r).toArray
  kR : K gR
section
variable {K K' : Foot} {W W' : World} {gP gd gl gp gr gv n : Nat} {f : Nat → Sp.Rw} {gR : Nat} {r : Sp.Rw}
theorem LawO.kept (h : LawO K W gP gd gl gp gr gv n f gR r) (hk : Kept K W W') : LawO K W' gP gd gl gp gr gv n f gR r := ⟨h.i.kept hk, h.r.kept hk h.kR, h.kR⟩
theorem LawO.mono (h : LawO K W gP gd gl gp gr gv n f gR r) (hk : ∀ b, K b → K' b) : LawO K' W gP gd gl gp gr gv n f gR r := ⟨h.i.mono hk, h.r, hk _ h.kR⟩
theorem LawO.s (h : LawO K W gP gd gl gp gr gv n f gR r) : W.cell? ⟨gP, 2, none⟩ = some (ptr gp) ∧
    W.cell? ⟨gR, 0, none⟩ = some (str r.key) ∧ W.cell? ⟨gR, 1, none⟩ = some (.bool r.mark) ∧ W.cell? ⟨gR, 2, none⟩ = some (.int .u64 r.tx) ∧ W.cell? ⟨gR, 3, none⟩ = some (.int .u32 r.page) ∧
    W.cell? ⟨gR, 4, none⟩ = some (.int .u16 r.slot) ∧ W.cell? ⟨gR, 5, none⟩ = some (str r.value) ∧ W.cell? ⟨gR, 6, none⟩ = some (.int .i64 r.pad) :=
  ⟨h.i.play.cell 2, h.r.cell 0, h.r.cell 1, h.r.cell 2, h.r.cell 3, h.r.cell 4, h.r.cell 5, h.r.cell 6⟩
end

set_option maxRecDepth 100000 in
set_option maxHeartbeats 2000000 in
/-- Two rows are compared. -/
theorem row_eql (r s : Sp.Rw) (b : Bool) (hb : b = true ↔ r = s) (W : World) : (binOp .eql 37 (.agg #[str r.key, .bool r.mark, .int .u64 r.tx, .int .u32 r.page, .int .u16 r.slot, str r.value, .int .i64 r.pad]) (.agg #[str s.key, .bool s.mark, .int .u64 s.tx, .int .u32 s.page, .int .u16 s.slot, str s.value, .int .i64 s.pad])).run Tryz.prog W = .ok (.bool b) W := by
  go_simp
  cases b with
  | true =>
    obtain rfl := hb.1 rfl
    simp
  | false =>
    have hne : r ≠ s := fun h => absurd (hb.2 h) (by simp)
    clear hb
    by_cases h1 : r.key = s.key <;> by_cases h2 : r.mark = s.mark <;> by_cases h3 : (r.tx : Int) = s.tx <;> by_cases h4 : (r.page : Int) = s.page <;> by_cases h5 : (r.slot : Int) = s.slot <;> by_cases h6 : r.value = s.value <;> by_cases h7 : (r.pad : Int) = s.pad <;> simp only [h1, h2, h3, h4, h5, h6, h7, if_true, if_false]
    · refine absurd ?_ hne
      cases r; cases s
      dsimp only at h1 h2 h3 h4 h5 h6 h7
      rw [Sp.Rw.mk.injEq]
      exact ⟨h1, h2, by omega, by omega, by omega, h6, by omega⟩
theorem row_noguard : Tryz.prog.eqGuardType Tryz.prog.depth 37 = false := by kernel_rfl
theorem run_op_roweq {o : Oper} {a : Act} {w : World} (x y : Operand) (s0 : TypeId) (r s : Sp.Rw) (b : Bool) (ho : o.op = .binOp .eql 37 x y s0)
    (hx : a.eval x = .agg #[str r.key, .bool r.mark, .int .u64 r.tx, .int .u32 r.page, .int .u16 r.slot, str r.value, .int .i64 r.pad]) (hy : a.eval y = .agg #[str s.key, .bool s.mark, .int .u64 s.tx, .int .u32 s.page, .int .u16 s.slot, str s.value, .int .i64 s.pad]) (hb : b = true ↔ r = s) :
    (execOp a.eval o).run Tryz.prog w = .ok (.value (.bool b)) w := by
  unfold execOp
  simp only [ho, hx, hy, Sem.run_bind, run_eqGuard_agg (hm := row_noguard), Result.andThen_ok, row_eql r s b hb w, Sem.run_pure]

/-- Where the version that is seen was met, among the first j. -/
def Sp.sx (p j : Nat) : Int := if 1 ≤ p ∧ p ≤ j then (p : Int) - 1 else -1
theorem Sp.sx_zero {p : Nat} : Sp.sx p 0 = -1 := by unfold Sp.sx; rw [if_neg (by omega)]
theorem Sp.sx_end {p n : Nat} (h : p ≤ n) : Sp.sx p n = (p : Int) - 1 := by
  unfold Sp.sx
  by_cases h1 : 1 ≤ p ∧ p ≤ n
  · rw [if_pos h1]
  · rw [if_neg h1]; omega
theorem Sp.sx_at {p j : Nat} (h : p = j + 1) : Sp.sx p (j + 1) = (j : Int) := by subst h; unfold Sp.sx; rw [if_pos (by omega)]; omega
theorem Sp.sx_skip {p j : Nat} (h : ¬ p = j + 1) : Sp.sx p (j + 1) = Sp.sx p j := by
  unfold Sp.sx
  by_cases h1 : 1 ≤ p ∧ p ≤ j
  · rw [if_pos h1, if_pos (by omega)]
  · rw [if_neg h1, if_neg (by omega)]
end Go.Proofs.YtphkggcdfkcidaaGreat
