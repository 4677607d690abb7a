/-
  DERIVED: THE SHELF's CONTRACTS AT THIS DUMP, IN PLAIN WORDS (tools/lay-plain.mjs out of 'TryzShel3.lean', which tools/lay-shelf.mjs wrote): THE SAME DECLARATIONS UNDER THE SAME NAMES: 'import', 'namespace', 'open', 'def', 'theorem' AND NOTHING ELSE: no command of the shelf's: FOR A HAND-IN. Each laying: the table of numbers ('.._ren') and one theorem, a field a fact of the dump's own or the kernel's comparison; each contract: ONE APPLICATION.
-/
import Derived.Shelf.Small.Bits
import Derived.Ground.Names2Prog
import Derived.Test.YtafopojibpifoaaGreatProg
import Derived.Test.YtafopojibpifoaaGreatMAE
import Derived.Sort.WalkA
import Derived.Sort.LotA
import Derived.Test.YtafopojibpifoaaGreatMAC
import Derived.Test.YtafopojibpifoaaGreatMAA
import Derived.Lib.Bytealg

namespace Go.Proofs
open Go.Shelf
def Tryz.lays125_ren : Go.Shelf.Ren := ⟨fun | 125 => 160 | 128 => 173 | 129 => 174 | n => n, fun | 46 => 153 | 3 => 3 | 51 => 33 | 53 => 38 | 4 => 4 | 5 => 5 | 9 => 9 | n => n, fun | n => n⟩
theorem Tryz.lays125 : Go.Proofs.Lays.n125 Tryz.prog Tryz.lays125_ren := {
  mixed := by kernel_rfl
  f125 := Tryz.func160.trans (congrArg some (by kernel_rfl))
  f128 := Tryz.func173.trans (congrArg some (by kernel_rfl))
  f129 := Tryz.func174.trans (congrArg some (by kernel_rfl))
  t3 := Tryz.underlying3
  a3 := Tryz.isAgg3
  z3 := Tryz.sizeOf3
  v3 := Tryz.zeroValue3
  t4 := Tryz.underlying4
  a4 := Tryz.isAgg4
  z4 := Tryz.sizeOf4
  v4 := Tryz.zeroValue4
  t5 := Tryz.underlying5
  a5 := Tryz.isAgg5
  z5 := Tryz.sizeOf5
  v5 := Tryz.zeroValue5
  t9 := Tryz.underlying9
  a9 := Tryz.isAgg9
  z9 := Tryz.sizeOf9
  v9 := Tryz.zeroValue9
  t46 := Tryz.underlying153
  a46 := Tryz.isAgg153
  z46 := Tryz.sizeOf153
  v46 := Tryz.zeroValue153
  t51 := Tryz.underlying33
  a51 := Tryz.isAgg33
  z51 := Tryz.sizeOf33
  v51 := Tryz.zeroValue33
  t53 := Tryz.underlying38
  a53 := Tryz.isAgg38
  z53 := Tryz.sizeOf38
  v53 := Tryz.zeroValue38 }
/-- bits.Len: "Len returns the minimum number of bits required to represent x; the result is 0 for x == 0.": IT RETURNS 'Lib.bitLen x'; the world is as it was. (A uint has 64 bits in the model.) ITS CALLEE bits.Len64 IS MET BY ITS OWN CONTRACT OFF THE SHELF (lay that first). (LAID: no walk: one application.) -/
theorem Tryz.bits_Len (x : Int) (w : World) (h0 : 0 ≤ x) (h1 : x ≤ 18446744073709551615) :
    Calls Tryz.prog 160 #[.int .u64 x] w fun e w' => e = .returned (.int .i64 (Lib.bitLen x.toNat)) ∧ w' = w := Any.bits_Len Tryz.lays125 x w h0 h1
end Go.Proofs

/- slices.Sort of at most 12 numbers (uint32): the insertion sort of the library, walked at this element type (after the kit's worked walk at int). -/
namespace Go.Proofs.YtafopojibpifoaaGreat
open Go.RowKit Go.Sort

def ltN (x y : Nat) : Bool := decide (x < y)
theorem cmp_isNaN_u32 (x : Nat) (w : World) : Calls Tryz.prog 181 #[u32v x] w fun e w' => e = .returned (.bool false) ∧ w' = w := by
  go_enter Tryz.func181, Tryz.ntmps181
  go_wp2_with fail
  go_ret
  exact ⟨by simp, rfl⟩
theorem cmp_Less_u32 (x y : Nat) (w : World) : Calls Tryz.prog 170 #[u32v x, u32v y] w fun e w' => e = .returned (.bool (ltN x y)) ∧ w' = w := by
  go_enter Tryz.func170, Tryz.ntmps170
  go_wp2_with (go_at_call 181; refine (cmp_isNaN_u32 _ _).mono ?_; rintro e w' ⟨rfl, rfl⟩)
  go_ret
  exact ⟨rfl, rfl⟩

set_option maxRecDepth 100000 in
set_option maxHeartbeats 1000000 in
theorem insertion_u32 (blk off cap a b : Nat) (d : Array Nat) (w : World) (hH : Holds u32v w blk off d) (hab : a ≤ b) (hb : b ≤ d.size) (hsz : d.size < 4611686018427387904) :
    Calls Tryz.prog 164 #[.slice (some ⟨blk, off, none⟩) d.size cap, .int .i64 a, .int .i64 b] w fun e w' =>
      e = .returned (.tuple #[]) ∧ ∃ n, w' = putRow u32v (Sort.ahead w n) blk off (Sort.insertionSort ltN d a b) := by
  go_enter Tryz.func164, Tryz.ntmps164
  go_wp2_with fail
  go_loopw [6] (fun vi wr => ∃ (i n : Nat) (dk : Array Nat), vi = .int .i64 i ∧ a < i ∧ i ≤ b + 1 ∧ dk.size = d.size ∧ wr = putRow u32v (Sort.ahead w n) blk off dk ∧
      insOuter ltN a b i dk = insOuter ltN a b (a + 1) d) (fun vi _ => b + 1 - (intOf vi).toNat)
  case atStart => exact ⟨a + 1, 0, d, by go_num, by omega, by omega, rfl, (putRow_self _ _ _ _ _ hH).symm, rfl⟩
  case round =>
    obtain ⟨i, n, dk, rfl, hai, hib, hsk, hwr, hO⟩ := hrel
    have HO : Hid (insOuter ltN a b i dk = insOuter ltN a b (a + 1) d) := hO
    clear hO
    go_wp2_with fail
    · go_loopw [7] (fun vj wr2 => ∃ (j m : Nat) (dj : Array Nat), vj = .int .i64 j ∧ a ≤ j ∧ j ≤ i ∧ dj.size = d.size ∧ wr2 = putRow u32v (Sort.ahead w m) blk off dj ∧
          insInner ltN a j dj = insInner ltN a i dk) (fun vj _ => (intOf vj).toNat)
      case atStart => exact ⟨i, n, dk, rfl, by omega, Nat.le_refl _, hsk, rfl, rfl⟩
      case round =>
        obtain ⟨j, m, dj, rfl, haj, hji, hsj, hw2, hI⟩ := hrel
        have hlt : i < b := by assumption
        obtain ⟨G, hG⟩ : ∃ G : Nat → Nat, ∀ t, G t = dj[t]! := ⟨fun t => dj[t]!, fun _ => rfl⟩
        have hcw : ∀ t, t < d.size → wr.cell? ⟨blk, off + t, none⟩ = some (u32v (G t)) := fun t ht => by
          rw [hw2, hG]; exact cell?_putRow _ _ _ _ d dj (holds_ahead _ _ _ _ _ _ hH) hsj t (by omega)
        have hfw : ∀ t, t < d.size → wr.frozen? ⟨blk, off + t, none⟩ = false := fun t ht => by
          rw [hw2, frozen?_putRow]; exact ((holds_ahead _ _ m _ _ _ hH) t ht).2
        have HW : Hid (wr = putRow u32v (Sort.ahead w m) blk off dj) := hw2
        have HG : Hid (∀ t, G t = dj[t]!) := hG
        have HI : Hid (insInner ltN a j dj = insInner ltN a i dk) := hI
        clear hw2 hG hI hH
        have out : (j ≤ a ∨ ltN dj[j]! dj[j - 1]! = false) → ∀ q, ∃ i' n' dk', Value.int .i64 ((i : Int) + 1) = .int .i64 (i' : Nat) ∧ a < i' ∧ i' ≤ b + 1 ∧ dk'.size = d.size ∧
            wr.drewN q = putRow u32v (Sort.ahead w n') blk off dk' ∧ insOuter ltN a b i' dk' = insOuter ltN a b (a + 1) d := fun hs q =>
          ⟨i + 1, m + q, dj, by go_num, by omega, by omega, hsj, by rw [HW.out]; exact putRow_drewN _ _ _ _ _ _ _,
            by rw [← HO.out, insOuter_go _ _ _ _ _ hlt, ← HI.out, insInner_stop _ _ _ _ hs]⟩
        have OUT : Hid _ := out
        clear out
        go_wp2_with fail
        by_cases hja : a < j
        · go_quiet (first | (go_at_call 170; refine Calls.quiet_of_same (cmp_Less_u32 _ _ _)))
          go_wp2_with fail
          · have hl : ltN (G j) (G (j - 1)) = true := by assumption
            go_region
            all_goals go_wp2_with fail
            go_roundw
            case rel =>
              refine ⟨j - 1, m + (nq + 1), swp dj j (j - 1), by congr 1; omega, by omega, by omega, by rw [size_swp]; exact hsj, ?_, ?_⟩
              · rw [HW.out, HG.out, HG.out]
                exact swap_worldA _ w m (nq + 1) blk off dj j (j - 1) (by omega) (by omega)
              · rw [← HI.out, insInner_go ltN a j dj hja (by rw [← HG.out, ← HG.out]; exact hl)]
            case measure => simp [intOf]; omega
          · have hl : ltN (G j) (G (j - 1)) = false := by assumption
            go_roundw
            case rel => exact OUT.out (Or.inr (by rw [← HG.out, ← HG.out]; exact hl)) nq
            case measure => simp [intOf]; omega
        · go_quiet (first | (go_at_call 170; refine Calls.quiet_of_same (cmp_Less_u32 _ _ _)))
          go_wp2_with fail
          go_roundw
          case rel => exact OUT.out (Or.inl (by omega)) nq
          case measure => simp [intOf]; omega
    · have hge : ¬ i < b := by assumption
      go_end0
      exact ⟨rfl, n, by unfold Sort.insertionSort; rw [← HO.out, insOuter_stop _ _ _ _ _ hge]⟩

set_option maxRecDepth 100000 in
set_option maxHeartbeats 1000000 in
/-- Of at most 12 elements the library's sort is the insertion sort. -/
theorem pdq_u32 (blk off cap : Nat) (d : Array Nat) (w : World) (hH : Holds u32v w blk off d) (h12 : d.size ≤ 12) (lim : Int) :
    Calls Tryz.prog 159 #[.slice (some ⟨blk, off, none⟩) d.size cap, .int .i64 0, .int .i64 d.size, .int .i64 lim] w fun e w' =>
      e = .returned (.tuple #[]) ∧ ∃ n, w' = putRow u32v (Sort.ahead w n) blk off (Sort.insertionSort ltN d 0 d.size) := by
  have HI := Lib.hid (insertion_u32 blk off cap 0 d.size d w hH (Nat.zero_le _) (Nat.le_refl _) (by omega))
  have d1 : decide ((d.size : Int) ≤ 12) = true := by rw [decide_eq_true_eq]; omega
  clear hH
  go_enter Tryz.func159, Tryz.ntmps159
  go_wp2_with fail
  refine wp_loop_rounds 1 ?_
  rw [rounds_succ]
  go_wp2_with fail
  refine HI.out.mono ?_
  rintro e w1 ⟨rfl, n, hw⟩
  go_wp2_with fail
  refine bodyPost_ret (results_none rfl _ _ _) rfl ?_
  exact ⟨rfl, n, rfl⟩

set_option maxRecDepth 100000 in
set_option maxHeartbeats 1000000 in
theorem sort_u32 (blk off cap : Nat) (d : Array Nat) (w : World) (hH : Holds u32v w blk off d) (h12 : d.size ≤ 12) :
    Calls Tryz.prog 157 #[.slice (some ⟨blk, off, none⟩) d.size cap] w fun e w' =>
      e = .returned (.tuple #[]) ∧ ∃ n, w' = putRow u32v (Sort.ahead w n) blk off (Sort.insertionSort ltN d 0 d.size) := by
  have HP := Lib.hid (pdq_u32 blk off cap d w hH h12)
  have HL := Lib.hid fun (x : Int) (W : World) (h0 : 0 ≤ x) (h1 : x ≤ 18446744073709551615) => Tryz.bits_Len x W h0 h1
  clear hH
  go_enter Tryz.func157, Tryz.ntmps157
  go_wp2_with fail
  refine (HL.out _ _ (by omega) (by omega)).mono ?_
  rintro e w1 ⟨rfl, hw⟩
  subst w1
  go_wp2_with fail
  refine (HP.out _).mono ?_
  rintro e w1 ⟨rfl, n, hw⟩
  go_wp2_with fail
  go_end0
  exact ⟨rfl, n, rfl⟩

/-- A list of numbers, sorted as the library does. -/
def Sp.sorted (l : List Nat) : List Nat := (Sort.insertionSort ltN l.toArray 0 l.length).toList
theorem ltN_swo : SWO ltN := by
  constructor <;> simp [ltN] <;> omega
theorem Sp.sorted_spec (l : List Nat) : (Sp.sorted l).Perm l ∧ (Sp.sorted l).Pairwise (· ≤ ·) := by
  obtain ⟨⟨h1, h2, h3⟩, h4⟩ := insertionSort_holds ltN_swo l.toArray 0 l.length (Nat.zero_le _) (by simp)
  refine ⟨?_, ?_⟩
  · unfold Sp.sorted
    have e1 : (Sort.insertionSort ltN l.toArray 0 l.length).extract 0 l.length = Sort.insertionSort ltN l.toArray 0 l.length := by
      apply Array.ext
      · simp [h1]
      · intro i _ _; simp
    have e2 : l.toArray.extract 0 l.length = l.toArray := by
      apply Array.ext
      · simp
      · intro i _ _; simp
    rw [e1, e2] at h3
    simpa using h3
  · unfold Sp.sorted
    rw [List.pairwise_iff_getElem]
    intro i j hi hj hij
    have hsz : (Sort.insertionSort ltN l.toArray 0 l.length).size = l.length := by rw [h1]; simp
    have := h4 i j (Nat.zero_le _) hij (by simpa [hsz] using hj)
    rw [getElem!_pos _ i (by simpa using hi), getElem!_pos _ j (by simpa using hj)] at this
    simpa [ltN] using this
theorem Sp.sorted_one (x : Nat) : Sp.sorted [x] = [x] := by
  have := (Sp.sorted_spec [x]).1
  exact List.perm_singleton.1 this

/-- slices.Sort of a row of numbers from a block's beginning on. -/
theorem sort_row {w : World} {g cap : Nat} {cs : Array Value} {l : List Nat} (hb : Blk w g 33 cs) (hl : l.length ≤ 12) (hc : ∀ j, j < l.length → cs[j]? = some (u32v l[j]!)) :
    Calls Tryz.prog 157 #[.slice (some ⟨g, 0, none⟩) l.length cap] w fun e w' => e = .returned (.tuple #[]) ∧
      ∃ cs', Blk w' g 33 cs' ∧ cs'.size = cs.size ∧ (∀ j, j < l.length → cs'[j]? = some (u32v (Sp.sorted l)[j]!)) ∧ w.grownBy w' (some g) := by
  have hH : Holds u32v w g 0 l.toArray := by
    intro j hj
    have hj' : j < l.length := by simpa using hj
    rw [Nat.zero_add]
    refine ⟨(hb.cell j).trans ?_, hb.frozen j⟩
    rw [hc j hj']
    simp [hj']
  have hs := sort_u32 g 0 cap l.toArray w hH (by simpa using hl)
  have hsz : l.toArray.size = l.length := by simp
  rw [hsz] at hs
  have hps : (Sp.sorted l).length = l.length := (Sp.sorted_spec l).1.length_eq
  refine hs.mono ?_
  rintro e w' ⟨rfl, n, rfl⟩
  refine ⟨rfl, _, putRow_heap w n g _ cs _ hb, by simp [Go.Sort.putCells], fun j hj => ?_, putRow_grown w n g _⟩
  have hjc : j < cs.size := by
    rcases Nat.lt_or_ge j cs.size with h | h
    · exact h
    · have := hc j hj; rw [Array.getElem?_eq_none h] at this; cases this
  have hlen : (Sort.insertionSort ltN l.toArray 0 l.length).size = l.length := hps
  simp only [Go.Sort.putCells, Array.getElem?_mapIdx]
  rw [Array.getElem?_eq_getElem hjc]
  simp only [Option.map_some, Nat.zero_le, Nat.zero_add, true_and, Nat.sub_zero]
  rw [if_pos (by rw [hlen]; exact hj)]
  unfold Sp.sorted
  rw [getElem!_pos _ j (by rw [hlen]; exact hj), getElem!_pos _ j (by simpa [hlen] using hj)]
  simp
end Go.Proofs.YtafopojibpifoaaGreat

/- The walks of package pool: writes of pages that are clean. -/
namespace Go.Proofs.YtafopojibpifoaaGreat
open Go.RowKit Go.Conc

theorem frCells_one (it : Sp.It) (A : Option Addr) (c : Nat) : (frCells it A c).toArray.all (·.oneCell') = true := by simp [frCells, Value.oneCell']
theorem fr_size : (Tryz.prog.info? 145).map (·.size) = some 9 := by kernel_rfl

section
variable {fb : Nat} {cs : Array Value}
/-- A frame, loaded whole. -/
theorem load_frame {W : World} {i : Nat} {L : List Value} (hb : Blk W fb 145 cs) (hL : L.length = 9) (hc : ∀ j, j < 9 → cs[i * 9 + j]? = L[j]?) :
    (loadVar 145 ⟨fb, i * 9, none⟩).run Tryz.prog W = .ok (.agg L.toArray) W := by
  refine run_loadVar_part W _ _ _ _ (fun j u hu => ?_) Tryz.underlying145 rfl (by rw [hL]; exact fr_size)
  have hj : j < 9 := by have := (List.getElem?_eq_some_iff.1 hu).1; omega
  have e : (⟨fb, i * 9, none⟩ : Addr).add j = ⟨fb, i * 9 + j, none⟩ := by cases j <;> simp [Addr.add]
  rw [e, hb.cell, hc j hj, hu]
end

set_option maxRecDepth 100000 in
set_option maxHeartbeats 2000000 in
theorem pool_writes_clean {F R : Foot} {w : World} {gp gd gl at_ base fb cb mb s r : Nat} {v : Value} {cs : Array Value} {fl ids : List Nat} {p : Sp.Pl} (h : IsPlAt F R w gp gd gl at_ base fb cb mb v s r cs fl ids p)
    {l : List Nat} {gx cap : Nat} {xs : Array Value} (hb : Blk w gx 33 xs) (hgx : ¬ F gx) (hl : l.length ≤ 12) (hxs : ∀ j, j < l.length → xs[j]? = some (u32v l[j]!))
    (hin : ∀ n ∈ l, n < 4294967296 ∧ ∃ it, p.find n = some it ∧ it.dirty = false) :
    Calls Tryz.prog 152 #[ptr gp, .slice (some ⟨gx, 0, none⟩) l.length cap] w fun e w' => e = .returned (.int .i64 0) ∧ Turns (only gx) (only gx) w w' := by
  have HS := Lib.hid (sort_row (cap := cap) hb hl hxs)
  have H := Lib.hid h
  have hgl : gx < w.heap.size := hb.lt
  have hperm := (Sp.sorted_spec l).1
  have hin2 : ∀ n ∈ Sp.sorted l, n < 4294967296 ∧ ∃ it, p.find n = some it ∧ it.dirty = false := fun n hn => hin n (hperm.mem_iff.1 hn)
  have hps := hperm.length_eq
  have HIN := Lib.hid hin2
  have hn64 := h.wf.n64
  obtain ⟨i9, hi9, hz9, hz91, hz92⟩ := info_parts fr_info
  clear h hb hxs hin hin2
  go_enter Tryz.func152, Tryz.ntmps152
  go_wp2_with fail
  refine HS.out.mono ?_
  rintro e w1 ⟨rfl, cs1, hb1, hcs1, hc1, hg1⟩
  rw [← hps] at hc1
  have ht1 : Turns (only gx) (only gx) w w1 := (Turns.refl (only gx) w).grown hg1 (fun k hk => .inl (by injection hk with hk; exact hk.symm))
  have H1 := Lib.hid (H.out.keep ht1.size (fun b hb => ht1.block b (H.out.lt b hb) (fun e => hgx (by have e : b = gx := e; rw [← e]; exact hb))))
  have HC1 := Lib.hid hc1
  have HB1 := Lib.hid hb1
  have HG := Lib.hid hgx
  clear HS H hg1 hc1 hb1 hperm hgx
  generalize Sp.sorted l = q at *
  rw [← hps] at hl ⊢
  clear hps
  go_wp2_with fail
  go_loopw [5, 6, 21] (fun v5 v6 i wr => ∃ k : Nat, k ≤ q.length ∧ v5 = .slice none 0 0 ∧ v6 = .int .u64 0 ∧ i = .int .i64 k ∧ Turns noFoot noFoot w1 wr) (fun _ _ i _ => q.length - (intOf i).toNat)
  case atStart => exact ⟨0, by omega, rfl, rfl, rfl, Turns.refl _ _⟩
  case round =>
    obtain ⟨k, hk, rfl, rfl, rfl, htr⟩ := hrel
    have H2 := Lib.hid (H1.out.keep htr.size (fun b hb => htr.block b (H1.out.lt b hb) (fun e => e)))
    have hB2 := HB1.out.turns htr (fun e => e)
    by_cases hlt : k < q.length
    · have hcell := (hB2.cell k).trans (HC1.out k hlt)
      obtain ⟨hid, it, hf, hd⟩ := HIN.out q[k]! (by rw [getElem!_pos _ k hlt]; exact List.getElem_mem hlt)
      have hmeas : k + 1 ≤ q.length := hlt
      clear hB2
      generalize q[k]! = id at *
      obtain ⟨hit, rfl⟩ := Sp.Pl.find_mem hf
      obtain ⟨A, c, hA, hR, hc⟩ := H2.out.fr.item it hit
      have hlt9 := H2.out.wf.idx_lt hit
      have hload := fun (W : World) (hb : Blk W fb 145 cs) => load_frame hb rfl hc
      have HSS : ∀ W, IsPlAt F R W gp gd gl at_ base fb cb mb v s r cs fl ids p → W.cell? ⟨gp, 4, none⟩ = some (.slice (some ⟨fb, 0, none⟩) p.n p.n) ∧ W.cell? ⟨gp, 6, none⟩ = some (.map (some mb)) ∧
          (Instr.lookup 138 (.map (some mb)) (u32v it.page.id) false).run Tryz.prog W = .ok (.int .i64 it.idx) W ∧ Blk W fb 145 cs := fun W h => by
        obtain ⟨c0, c1, c2, c3, c4, c5, c6, c7⟩ := h.cells
        exact ⟨c4, c6, h.look hid hf, h.fr.blk⟩
      have HSSH := Lib.hid HSS
      have HL := Lib.hid hload
      clear HSS hload hc hA hR hf
      go_wp2_with fail
      refine R_begin (fun W => W.cell? ⟨gp, 4, none⟩ = some (.slice (some ⟨fb, 0, none⟩) p.n p.n) ∧ W.cell? ⟨gp, 6, none⟩ = some (.map (some mb)) ∧
          (Instr.lookup 138 (.map (some mb)) (u32v it.page.id) false).run Tryz.prog W = .ok (.int .i64 it.idx) W ∧ Blk W fb 145 cs) (fun j => j == 13) rfl ?_
      have hS := Lib.hid (HSSH.out wr.drew (H2.out.keep (Nat.le_refl _) (fun _ _ => rfl)))
      refine R_take 0 25 (v := ?_) rfl rfl (by rfl) (by kernel_rfl) (fun _ _ _ h => h) hS.out ?_ ?_
      rotate_left
      · intro w hSw; (try dsimp only at hSw); go_simp; (try with_reducible rfl)
      simp only [List.setIfInBounds_toArray, List.set_cons_zero, List.set_cons_succ]
      refine R_take 1 26 (v := ?_) rfl rfl (by rfl) (by kernel_rfl) (fun _ _ _ h => h) hS.out ?_ ?_
      rotate_left
      · intro w hSw; (try dsimp only at hSw); go_simp; (try with_reducible rfl)
      simp only [List.setIfInBounds_toArray, List.set_cons_zero, List.set_cons_succ]
      refine R_take 2 27 (v := ?_) rfl rfl (by rfl) (by kernel_rfl) (fun _ _ _ h => h) hS.out ?_ ?_
      rotate_left
      · intro w hSw; (try dsimp only at hSw); go_simp; (try with_reducible rfl)
      simp only [List.setIfInBounds_toArray, List.set_cons_zero, List.set_cons_succ]
      refine R_take 3 28 (v := ?_) rfl rfl (by rfl) (by kernel_rfl) (fun _ _ _ h => h) hS.out ?_ ?_
      rotate_left
      · intro w hSw; (try dsimp only at hSw); go_simp; (try with_reducible rfl)
      simp only [List.setIfInBounds_toArray, List.set_cons_zero, List.set_cons_succ]
      refine R_take 4 29 (v := ?_) rfl rfl (by rfl) (by kernel_rfl) (fun _ _ _ h => h) hS.out ?_ ?_
      rotate_left
      · intro w hSw; (try dsimp only at hSw); go_simp; (try with_reducible rfl)
      simp only [List.setIfInBounds_toArray, List.set_cons_zero, List.set_cons_succ]
      refine R_take 5 30 (v := ?_) rfl rfl (by rfl) (by kernel_rfl) (fun _ _ _ h => h) hS.out ?_ ?_
      rotate_left
      · intro w hSw; (try dsimp only at hSw); go_simp; (try with_reducible rfl)
      simp only [List.setIfInBounds_toArray, List.set_cons_zero, List.set_cons_succ]
      refine R_take 6 31 (v := ?_) rfl rfl (by rfl) (by kernel_rfl) (fun _ _ _ h => h) hS.out ?_ ?_
      rotate_left
      · intro w hSw; (try dsimp only at hSw); go_simp; (try with_reducible rfl)
      simp only [List.setIfInBounds_toArray, List.set_cons_zero, List.set_cons_succ]
      refine R_take 7 32 (v := ?_) rfl rfl (by rfl) (by kernel_rfl) (fun _ _ _ h => h) hS.out ?_ ?_
      rotate_left
      · intro w hSw; (try dsimp only at hSw); go_simp; (try with_reducible rfl)
      simp only [List.setIfInBounds_toArray, List.set_cons_zero, List.set_cons_succ]
      refine R_take 8 33 (v := ?_) rfl rfl (by rfl) (by kernel_rfl) (fun _ _ _ h => h) hS.out ?_ ?_
      rotate_left
      · intro w hSw; (try dsimp only at hSw); go_simp; (try with_reducible rfl)
      simp only [List.setIfInBounds_toArray, List.set_cons_zero, List.set_cons_succ]
      refine R_take 9 34 (v := ?_) rfl rfl (by rfl) (by kernel_rfl) (fun _ _ _ h => h) hS.out ?_ ?_
      rotate_left
      · intro w hSw; (try dsimp only at hSw); go_simp; (try with_reducible rfl)
      simp only [List.setIfInBounds_toArray, List.set_cons_zero, List.set_cons_succ]
      refine R_take 10 35 (v := ?_) rfl rfl (by rfl) (by kernel_rfl) (fun _ _ _ h => h) hS.out ?_ ?_
      rotate_left
      · intro w hSw; (try dsimp only at hSw); go_simp; (try with_reducible rfl)
      simp only [List.setIfInBounds_toArray, List.set_cons_zero, List.set_cons_succ]
      refine R_take 11 36 (v := .agg (frCells it A c).toArray) rfl rfl (by rfl) (by kernel_rfl) (fun _ _ _ h => h) hS.out ?_ ?_
      · intro w hSw
        exact run_op_load _ _ _ rfl rfl (HL.out w hSw.2.2.2)
      simp only [List.setIfInBounds_toArray, List.set_cons_zero, List.set_cons_succ]
      have hk3 := H2.out.keep (w' := wr.drew.alloc (.cells zeroFr.toArray 145)) (by simp) (fun b hb => Below.heap_alloc wr.drew _ b (H2.out.lt b hb))
      refine R_run 12 9 (v := .pointer (some ⟨wr.drew.heap.size, 0, none⟩)) (w' := wr.drew.alloc (.cells zeroFr.toArray 145)) rfl rfl (by rfl) (by kernel_rfl) (run_op_alloc _ i9 _ _ rfl hi9 hz9 rfl) (fun _ => HSSH.out _ hk3) ?_
      simp only [List.setIfInBounds_toArray, List.set_cons_zero, List.set_cons_succ]
      have hB9 := Blk.new wr.drew 145 zeroFr.toArray
      have ht9 := htr.drew.alloc (.cells zeroFr.toArray 145)
      have hl9 : w1.heap.size ≤ wr.drew.heap.size := htr.size
      obtain ⟨g9, hg9⟩ : ∃ g, g = wr.drew.heap.size := ⟨_, rfl⟩
      obtain ⟨w3, hw3⟩ : ∃ w3, w3 = wr.drew.alloc (.cells zeroFr.toArray 145) := ⟨_, rfl⟩
      rw [← hw3, ← hg9] at hB9 ⊢
      rw [← hw3] at ht9
      rw [← hg9] at hl9
      clear hw3 hg9 hk3 hS HL HSSH
      refine R_store 13 (n := .skip) (w' := w3.setRow g9 (frCells it A c).toArray) rfl rfl (by rfl) (by kernel_rfl) (run_op_store _ _ _ _ _ rfl rfl rfl (run_storeVar_part w3 g9 0 _ _ _ (frCells it A c).toArray hB9 fr_size (by show 0 + 9 ≤ 9; omega) (frCells_one it A c))) (.inl rfl) (fun h => nomatch h) ?_
      refine R_done (by kernel_rfl) ?_ _
      rename_i K9 hK9
      refine hK9 _ _ ?_
      have hB9 := hB9.setRow (frCells it A c).toArray
      have ht9 := ht9.setRow (g := g9) (.inr hl9) (frCells it A c).toArray
      obtain ⟨w4, hw4⟩ : ∃ w4, w4 = w3.setRow g9 (frCells it A c).toArray := ⟨_, rfl⟩
      rw [← hw4] at hB9 ht9 ⊢
      clear hw4
      have f7 := hB9.cell 7
      simp only [frCells, List.getElem?_toArray, List.getElem?_cons_succ, List.getElem?_cons_zero, hd] at f7
      clear hB9 hcell
      go_wp2_with fail
      go_roundw
      case rel => exact ⟨k + 1, hmeas, rfl, rfl, by go_num, ht9⟩
      case measure => simp [intOf]; omega
    · obtain rfl : k = q.length := by omega
      clear hB2
      go_wp2_with fail
      go_ret
      exact ⟨rfl, ht1.trans (htr.wider (fun b h => h.elim) (fun b hb => .inl hb))⟩
end Go.Proofs.YtafopojibpifoaaGreat

/- The walks of package pool: drops of a page that is clean. -/
namespace Go.Proofs.YtafopojibpifoaaGreat
open Go.RowKit Go.Conc

def DropPost (F R : Foot) (w : World) (gp gd gl at_ base fb cb mb s r : Nat) (fl ids : List Nat) (p : Sp.Pl) (it : Sp.It) (e : Ending) (w' : World) : Prop :=
  e = .returned (.int .i64 0) ∧ ∃ F' v' cs', IsPlAt F' R w' gp gd gl at_ base fb cb mb v' (s + 1) r cs' (fl ++ [it.idx]) (ids.filter (fun x => !(x == it.page.id))) (p.drop it.page.id it.idx) ∧ Turns F F' w w'

set_option maxRecDepth 100000 in
set_option maxHeartbeats 2000000 in
theorem pool_drops_clean {F R : Foot} {w : World} {gp gd gl at_ base fb cb mb s r : Nat} {v : Value} {cs : Array Value} {ids : List Nat} {p : Sp.Pl} (h : IsPlAt F R w gp gd gl at_ base fb cb mb v s r cs p.free ids p)
    {id : Nat} (hid : id < 4294967296) {it : Sp.It} (hf : p.find id = some it) (hd : it.dirty = false) :
    Calls Tryz.prog 136 #[ptr gp, u32v id] w (DropPost F R w gp gd gl at_ base fb cb mb s r p.free ids p it) := by
  obtain ⟨hit, rfl⟩ := Sp.Pl.find_mem hf
  refine calls_of_wpN Tryz.func136 rfl ?_
  simp only [Tryz.ntmps136, List.size_toArray, List.length_cons, List.length_nil, Nat.reduceAdd, Nat.reduceSub, Array.replicate_succ, Array.replicate_zero, List.push_toArray, List.append_toArray, List.nil_append, List.cons_append]
  have hb0 := Blk.new w 33 #[u32v it.page.id]
  have h0 := h.keep (w' := w.alloc (.cells #[u32v it.page.id] 33)) (by simp) (fun b hb => Below.heap_alloc w _ b (h.lt b hb))
  have ht0 := (Turns.refl F w).alloc (.cells #[u32v it.page.id] 33)
  have ht0n := (Turns.refl noFoot w).alloc (.cells #[u32v it.page.id] 33)
  have hFl := h.lt
  refine wpN_seq_k ?_
  intro K hK
  go_wp2_with fail
  have hl0 : w.heap.size ≤ w.heap.size := Nat.le_refl _
  obtain ⟨w1, hw1⟩ : ∃ w1, w1 = w.alloc (.cells #[u32v it.page.id] 33) := ⟨_, rfl⟩
  rw [← hw1] at h0 hb0 ht0 ht0n ⊢
  obtain ⟨b3, hb3⟩ : ∃ b3, b3 = w.heap.size := ⟨_, rfl⟩
  rw [← hb3] at hb0 ⊢
  have hl3 : w.heap.size ≤ b3 := by omega
  clear hw1 hb3 hl0
  have H0 := Lib.hid h0
  have HB0 := Lib.hid hb0
  have c3 := hb0.cell 0
  simp only [List.getElem?_toArray, List.getElem?_cons_zero] at c3
  -- region 1 to 3: writes
  have hb1 := Blk.new w1 33 #[u32v it.page.id]
  have h1 := h0.keep (w' := w1.alloc (.cells #[u32v it.page.id] 33)) (by simp) (fun b hb => Below.heap_alloc w1 _ b (h0.lt b hb))
  have HWR := Lib.hid (pool_writes_clean (l := [it.page.id]) (gx := w1.heap.size) (cap := 1) h1 hb1 (fun hF => by have := h0.lt _ hF; omega) (by simp) (fun j hj => by
    have : j = 0 := by simpa using hj
    subst this; rfl) (fun n hn => by
      rw [List.mem_singleton.1 hn]
      exact ⟨hid, it, hf, hd⟩))
  clear h0 h1 hb0 hb1
  refine wpN_seq_k ?_
  intro K hK
  go_wp2_with fail
  refine HWR.out.mono ?_
  rintro e w2 ⟨rfl, ht2⟩
  have hbl3 : b3 < w1.heap.size := HB0.out.lt
  have hn2 : Turns noFoot noFoot w w2 := by
    have hz := ht0.size
    refine ⟨ht2.os.trans ht0.os, ht2.tape.trans ht0.tape, ht2.output.trans ht0.output, ?_, fun b hb _ => ?_, fun b hb => hb.elim⟩
    · have := ht2.size; simp at this; omega
    · rw [ht2.block b (by simp; omega) (fun e => by have e : b = w1.heap.size := e; omega), Below.heap_alloc w1 _ b (by omega)]
      exact ht0n.block b hb (fun e => e)
  have hb2 := (HB0.out.alloc (.cells #[u32v it.page.id] 33)).turns ht2 (fun e => by have e : b3 = w1.heap.size := e; omega)
  have h2 := h.keep hn2.size (fun b hb => hn2.block b (hFl b hb) (fun e => e))
  clear ht2 HWR HB0 H0 c3 ht0 ht0n
  go_wp2_with fail
  have hkd := fun (W : World) (hs : w2.heap.size ≤ W.heap.size) (hk : ∀ b, F b → W.heap[b]? = w2.heap[b]?) => (h2.keep hs hk).look hid hf
  obtain ⟨c0, c1, c2, c3, c4, c5, c6, c7⟩ := h2.cells
  have cb3 := hb2.cell 0
  simp only [List.getElem?_toArray, List.getElem?_cons_zero] at cb3
  have hS := Lib.hid (⟨c6, cb3, hkd w2.drew (Nat.le_refl _) (fun _ _ => rfl)⟩ : w2.drew.cell? ⟨gp, 6, none⟩ = some (.map (some mb)) ∧ w2.drew.cell? ⟨b3, 0, none⟩ = some (u32v it.page.id) ∧
      (Instr.lookup 138 (.map (some mb)) (u32v it.page.id) false).run Tryz.prog w2.drew = .ok (.int .i64 it.idx) w2.drew)
  clear hkd c0 c1 c2 c3 c4 c5 c6 c7 cb3
  refine wpN_seq_k ?_
  intro K hK
  refine R_begin (fun W => W.cell? ⟨gp, 6, none⟩ = some (.map (some mb)) ∧ W.cell? ⟨b3, 0, none⟩ = some (u32v it.page.id) ∧
      (Instr.lookup 138 (.map (some mb)) (u32v it.page.id) false).run Tryz.prog W = .ok (.int .i64 it.idx) W) (fun _ => false) rfl ?_
  refine R_take 0 14 (v := ?_) rfl rfl (by rfl) (by kernel_rfl) (fun _ _ _ h => h) hS.out ?_ ?_
  rotate_left
  · intro w hSw; (try dsimp only at hSw); go_simp; (try with_reducible rfl)
  simp only [List.setIfInBounds_toArray, List.set_cons_zero, List.set_cons_succ]
  refine R_take 1 15 (v := ?_) rfl rfl (by rfl) (by kernel_rfl) (fun _ _ _ h => h) hS.out ?_ ?_
  rotate_left
  · intro w hSw; (try dsimp only at hSw); go_simp; (try with_reducible rfl)
  simp only [List.setIfInBounds_toArray, List.set_cons_zero, List.set_cons_succ]
  refine R_take 2 16 (v := ?_) rfl rfl (by rfl) (by kernel_rfl) (fun _ _ _ h => h) hS.out ?_ ?_
  rotate_left
  · intro w hSw; (try dsimp only at hSw); go_simp; (try with_reducible rfl)
  simp only [List.setIfInBounds_toArray, List.set_cons_zero, List.set_cons_succ]
  refine R_take 3 17 (v := ?_) rfl rfl (by rfl) (by kernel_rfl) (fun _ _ _ h => h) hS.out ?_ ?_
  rotate_left
  · intro w hSw; (try dsimp only at hSw); go_simp; (try with_reducible rfl)
  simp only [List.setIfInBounds_toArray, List.set_cons_zero, List.set_cons_succ]
  refine R_take 4 18 (v := ?_) rfl rfl (by rfl) (by kernel_rfl) (fun _ _ _ h => h) hS.out ?_ ?_
  rotate_left
  · intro w hSw; (try dsimp only at hSw); go_simp; (try with_reducible rfl)
  simp only [List.setIfInBounds_toArray, List.set_cons_zero, List.set_cons_succ]
  refine R_take 5 19 (v := ?_) rfl rfl (by rfl) (by kernel_rfl) (fun _ _ _ h => h) hS.out ?_ ?_
  rotate_left
  · intro w hSw; (try dsimp only at hSw); go_simp; (try with_reducible rfl)
  simp only [List.setIfInBounds_toArray, List.set_cons_zero, List.set_cons_succ]
  refine R_take 6 6 (v := ?_) rfl rfl (by rfl) (by kernel_rfl) (fun _ _ _ h => h) hS.out ?_ ?_
  rotate_left
  · intro w hSw; (try dsimp only at hSw); go_simp; (try with_reducible rfl)
  simp only [List.setIfInBounds_toArray, List.set_cons_zero, List.set_cons_succ]
  refine R_done (by kernel_rfl) ?_ _
  refine hK _ _ ?_
  have h3 := h2.keep (w' := w2.drew) (Nat.le_refl _) (fun _ _ => rfl)
  have hb3' := hb2.drew
  have hn3 := hn2.drew
  obtain ⟨w3, hw3⟩ : ∃ w3, w3 = w2.drew := ⟨_, rfl⟩
  rw [← hw3] at h3 hb3' hn3 ⊢
  clear hw3 hS h2 hb2 hn2 hK K h
  -- region 5: the frame is made empty
  obtain ⟨c0, c1, c2, c3, c4, c5, c6, c7⟩ := h3.cells
  have hbz : ∀ W, (Instr.build 145 #[]).run Tryz.prog W = .ok (.agg zeroFr.toArray) W := fun W => by kernel_rfl
  have hlt9 := h3.wf.idx_lt hit
  have hn64 := h3.wf.n64
  have H3 := Lib.hid h3
  have hcs := h3.fr.size
  clear c0 c1 c2 c3 c5 c6 c7 h3
  have hB3 := H3.out.fr.blk
  have HST := run_storeVar_part (P := Tryz.prog) w3 fb (it.idx * 9) 145 145 cs zeroFr.toArray hB3 fr_size (by rw [hcs]; show it.idx * 9 + 9 ≤ p.n * 9; omega) (by simp [zeroFr, Value.oneCell'])
  refine wpN_seq_k ?_
  intro K hK
  go_wp2_with (first | ((with_reducible refine wpList_skip (w' := w3.setRow fb (partRow cs (it.idx * 9) zeroFr)) rfl rfl ?_ ?_); exact run_op_store _ _ _ ⟨fb, it.idx * 9, none⟩ (.agg zeroFr.toArray) rfl rfl rfl HST))
  clear HST
  obtain ⟨f1, f2, f3, f4, f5⟩ := H3.out.foot
  obtain ⟨n1, n2, n3, n4, n5, n6⟩ := H3.out.ne
  obtain ⟨o1, o2, o3, o4⟩ := H3.out.own_ne
  have hB4 := hB3.setRow (partRow cs (it.idx * 9) zeroFr)
  have hk4 : ∀ b, b ≠ fb → (w3.setRow fb (partRow cs (it.idx * 9) zeroFr)).heap[b]? = w3.heap[b]? := fun b hb => setRow_other w3 fb b _ hb
  have ht4 := (Turns.refl F w3).setRow (g := fb) (.inl f2) (partRow cs (it.idx * 9) zeroFr)
  have hb34 : b3 ≠ fb := fun e => by have := hFl fb f2; omega
  have hb4' := hb3'.keep (hk4 b3 hb34)
  have hP4 := H3.out.blk.keep (hk4 gp n1)
  have hM4 := H3.out.map.keep (hk4 mb (Ne.symm n5))
  obtain ⟨w4, hw4⟩ : ∃ w4, w4 = w3.setRow fb (partRow cs (it.idx * 9) zeroFr) := ⟨_, rfl⟩
  rw [← hw4] at hB4 hk4 ht4 hb4' hP4 hM4 ⊢
  clear hw4
  -- region 6: delete
  have c6 := hP4.cell 6
  simp only [plCells, List.getElem?_toArray, List.getElem?_cons_succ, List.getElem?_cons_zero] at c6
  have cb3 := hb4'.cell 0
  simp only [List.getElem?_toArray, List.getElem?_cons_zero] at cb3
  have hS := Lib.hid (⟨c6, cb3⟩ : w4.drew.cell? ⟨gp, 6, none⟩ = some (.map (some mb)) ∧ w4.drew.cell? ⟨b3, 0, none⟩ = some (u32v it.page.id))
  clear c6 cb3
  refine wpN_seq_k ?_
  intro K hK
  refine R_begin (fun W => W.cell? ⟨gp, 6, none⟩ = some (.map (some mb)) ∧ W.cell? ⟨b3, 0, none⟩ = some (u32v it.page.id)) (fun _ => false) rfl ?_
  refine R_take 0 27 (v := ?_) rfl rfl (by rfl) (by kernel_rfl) (fun _ _ _ h => h) hS.out ?_ ?_
  rotate_left
  · intro w hSw; (try dsimp only at hSw); go_simp; (try with_reducible rfl)
  simp only [List.setIfInBounds_toArray, List.set_cons_zero, List.set_cons_succ]
  refine R_take 1 28 (v := ?_) rfl rfl (by rfl) (by kernel_rfl) (fun _ _ _ h => h) hS.out ?_ ?_
  rotate_left
  · intro w hSw; (try dsimp only at hSw); go_simp; (try with_reducible rfl)
  simp only [List.setIfInBounds_toArray, List.set_cons_zero, List.set_cons_succ]
  refine R_take 2 29 (v := ?_) rfl rfl (by rfl) (by kernel_rfl) (fun _ _ _ h => h) hS.out ?_ ?_
  rotate_left
  · intro w hSw; (try dsimp only at hSw); go_simp; (try with_reducible rfl)
  simp only [List.setIfInBounds_toArray, List.set_cons_zero, List.set_cons_succ]
  refine R_take 3 30 (v := ?_) rfl rfl (by rfl) (by kernel_rfl) (fun _ _ _ h => h) hS.out ?_ ?_
  rotate_left
  · intro w hSw; (try dsimp only at hSw); go_simp; (try with_reducible rfl)
  simp only [List.setIfInBounds_toArray, List.set_cons_zero, List.set_cons_succ]
  refine R_take 4 31 (v := ?_) rfl rfl (by rfl) (by kernel_rfl) (fun _ _ _ h => h) hS.out ?_ ?_
  rotate_left
  · intro w hSw; (try dsimp only at hSw); go_simp; (try with_reducible rfl)
  simp only [List.setIfInBounds_toArray, List.set_cons_zero, List.set_cons_succ]
  obtain ⟨w5, hdel, hM5, hg5⟩ := UMap.del (w := w4.drew) hM4.drew Tryz.underlying33 Tryz.underlying138 hid (i := it.idx) (by simp [Sp.Pl.lk, hf]) 0
  have hP5 := hP4.drew.grown hg5 (fun e => n3 (by injection e))
  have hbm : b3 ≠ mb := fun e => by have := hFl mb f4; omega
  have hb5 := hb4'.drew.grown hg5 (fun e => hbm (by injection e))
  have ht5 := ht4.drew.grown hg5 (fun k hk => .inl (by injection hk with hk; rw [← hk]; exact f4))
  have hB5 := hB4.drew.grown hg5 (fun e => n5 (by injection e))
  refine R_store 5 (n := .value (.tuple #[])) (w' := w5) rfl rfl (by rfl) (by kernel_rfl) (by go_simp) (.inr ⟨_, rfl⟩) (fun _ => ⟨(hP5.cell 6).trans rfl, (hb5.cell 0).trans rfl⟩) ?_
  refine R_done (by kernel_rfl) ?_ _
  refine hK _ _ ?_
  have hsz9 : it.idx * 9 + 9 ≤ cs.size := by omega
  have h5 := H3.out.drop (w' := w5) hit ht5.size (fun b hb h1 h2 => (hg5.block b (by have := H3.out.lt b hb; have := ht4.size; simp; omega) (fun e => h2 (by injection e))).trans (hk4 b h1)) hB5 (Framed.part rfl hsz9) (fun j hj => part_at rfl hsz9 hj) hM5
  have hc5 := h5.chan
  have hrow5 := h5.row
  have hF5 := h5.lt
  have c7 := hP5.cell 7
  have f7 := hP5.frozen 7
  simp only [plCells, List.getElem?_toArray, List.getElem?_cons_succ, List.getElem?_cons_zero] at c7
  have hn3v : v.ownBlock ≠ some b3 := fun e => by have := hFl b3 (f5 b3 e); omega
  have HDR := Lib.hid (delete_row (w := w5) (asks_drops it.page.id b3) hrow5 hb5 hn3v)
  have H5 := Lib.hid h5
  have hlen := H3.out.wf.len
  have hit1 : 0 < p.items.length := List.length_pos_of_mem hit
  clear h5 hrow5 hdel hg5 hM5 hM4 hP4 hb4' ht4 hB4 hk4 hB3 hb3' hS hK K hB5 hc5 c4 hb5
  refine wpN_seq_k ?_
  intro K hK
  go_wp2_with fail
  refine HDR.out.mono ?_
  rintro e w6 ⟨v', rfl, r1, r2, r3⟩
  have ht6 : Turns F F w3 w6 := ht5.grown r2 (fun k hk => .inl (f5 k hk))
  have hP6 := hP5.grown r2 (fun e => o1 e.symm)
  have c7 := hP6.cell 7
  have f7 := hP6.frozen 7
  simp only [plCells, List.getElem?_toArray, List.getElem?_cons_succ, List.getElem?_cons_zero] at c7
  have hrd := Lib.hid (H5.out.rowed (w' := w6.setCell ⟨gp, 7, none⟩ v') (v' := v') (ids' := ids.filter (fun x => !(x == it.page.id))) (by have := r2.size; simpa [World.setCell] using this)
    (fun b hb h1 h2 => (Below.heap_setCell w6 _ _ b h1).trans (r2.block b (hF5 b hb) (fun e => h2 e.symm))) (hP6.set_ 7 v')
    (row_keep r1 (fun b hb => Below.heap_setCell w6 _ _ b (fun e => o1 (by rw [r3 b hb, e])))) (fun b hb => .inl (r3 b hb)))
  have ht7 := ht6.setCell (p := ⟨gp, 7, none⟩) (.inl f1) v'
  obtain ⟨Av, nv, cv, rfl⟩ : ∃ A n c, v' = .slice A n c := by
    rcases r1.2 with ⟨h0, _⟩ | ⟨g6, c6, _, h0, _⟩
    · exact ⟨_, _, _, h0⟩
    · exact ⟨_, _, _, h0⟩
  clear r1 r2 HDR hP6 hP5 H5 H3 ht6
  go_wp2_with fail
  obtain ⟨w7, hw7⟩ : ∃ w7, w7 = w6.setCell ⟨gp, 7, none⟩ (.slice Av nv cv) := ⟨_, rfl⟩
  rw [← hw7] at hrd ht7 ⊢
  clear hw7
  have hc7 := hrd.out.chan
  obtain ⟨c0, c1, c2, c3, c4, c5, c6, c7'⟩ := hrd.out.cells
  clear c0 c1 c2 c3 c4 c6 c7'
  refine wpN_seq ?_
  refine wpN_region ?_
  change wpT _ _ _ [0, 1, 2, 3, 4, 5] _ _
  refine T_value 0 41 (v := ptr gp) (w' := w7) rfl rfl (by rfl) (by go_simp) ?_
  simp only [List.setIfInBounds_toArray, List.set_cons_zero, List.set_cons_succ]
  refine T_value 1 42 (v := ptr gp) (w' := w7) rfl rfl (by rfl) (by go_simp) ?_
  simp only [List.setIfInBounds_toArray, List.set_cons_zero, List.set_cons_succ]
  refine T_value 2 43 (v := .pointer (some ⟨gp, 5, none⟩)) (w' := w7) rfl rfl (by rfl) (by go_simp) ?_
  simp only [List.setIfInBounds_toArray, List.set_cons_zero, List.set_cons_succ]
  refine T_value 3 44 (v := .chan (some cb)) (w' := w7) rfl rfl (by rfl) (by go_simp) ?_
  simp only [List.setIfInBounds_toArray, List.set_cons_zero, List.set_cons_succ]
  refine T_value 4 45 (v := .int .i64 it.idx) (w' := w7) rfl rfl (by rfl) (by go_simp) ?_
  simp only [List.setIfInBounds_toArray, List.set_cons_zero, List.set_cons_succ]
  refine T_send 5 (c := cb) (cap := p.n) (buf := (p.free.map fun (i : Nat) => Value.int .i64 (i : Int)).toArray) (s := s) (r := r) (tm := false) (v := .int .i64 it.idx) (z := .tuple #[]) (w' := w7) rfl rfl (by rfl) (by simp [execOp, scase, Act.eval]) hc7 (by simp; omega) ?_
  refine T_done ?_
  simp only [Exit.then]
  refine wpN_of_wp ?_
  have hch := hrd.out.chans (fl' := p.free ++ [it.idx]) (s' := s + 1) (r' := r)
  change IsPlAt _ _ (w7.setChan cb p.n _ _ _ _ _) _ _ _ _ _ _ _ _ _ _ _ _ _ _ _ at hch
  have hgr := grown_setChan w7 cb p.n ((p.free ++ [it.idx]).map fun (i : Nat) => Value.int .i64 (i : Int)).toArray false (s + 1) r false
  have ht8 := ht7.grown hgr (fun k hk => .inl (by injection hk with hk; rw [← hk]; exact f3))
  have eb : ((p.free.map fun (i : Nat) => Value.int .i64 (i : Int)).toArray).push (.int .i64 (it.idx : Int)) = ((p.free ++ [it.idx]).map fun (i : Nat) => Value.int .i64 (i : Int)).toArray := by simp
  rw [eb]
  have HCH := Lib.hid hch
  clear hch hgr hrd hc7 ht7 eb
  generalize w7.setChan cb p.n ((p.free ++ [it.idx]).map fun (i : Nat) => Value.int .i64 (i : Int)).toArray false (s + 1) r false = w8 at *
  go_wp2_with fail
  go_ret
  refine ⟨rfl, _, _, _, HCH.out, ?_⟩
  have hn3z := hn3.size
  refine ⟨ht8.os.trans hn3.os, ht8.tape.trans hn3.tape, ht8.output.trans hn3.output, Nat.le_trans hn3z ht8.size, fun b hb hn => ?_, fun b hb => ?_⟩
  · rw [ht8.block b (by omega) hn]; exact hn3.block b hb (fun e => e)
  · rcases hb with hb | hb
    · exact .inl hb
    · exact .inl (f5 b (r3 b hb))
end Go.Proofs.YtafopojibpifoaaGreat

/- The walks of package pool: take. -/
namespace Go.Proofs.YtafopojibpifoaaGreat
open Go.RowKit Go.Conc

def TakePost (F R : Foot) (w : World) (gp gd gl at_ base fb cb mb : Nat) (i : Nat) (fl ids : List Nat) (p : Sp.Pl) (e : Ending) (w' : World) : Prop :=
  e = .returned (.tuple #[.int .i64 i, .int .i64 0]) ∧ ∃ F' v' s' r' cs', IsPlAt F' R w' gp gd gl at_ base fb cb mb v' s' r' cs' fl ids p ∧ Turns F F' w w'

theorem chan_pop (i : Nat) (rest : List Nat) : ((i :: rest).map fun (i : Nat) => Value.int .i64 (i : Int)).toArray.getD 0 undef = .int .i64 i ∧
    ((i :: rest).map fun (i : Nat) => Value.int .i64 (i : Int)).toArray.extract 1 ((i :: rest).map fun (i : Nat) => Value.int .i64 (i : Int)).toArray.size = (rest.map fun (i : Nat) => Value.int .i64 (i : Int)).toArray := by
  constructor
  · simp
  · simp only [List.map_cons, List.extract_toArray, List.size_toArray, List.length_cons, List.length_map]
    congr 1
    simp [List.take_of_length_le]

set_option maxRecDepth 100000 in
set_option maxHeartbeats 2000000 in
theorem pool_take_free {F R : Foot} {w : World} {gp gd gl at_ base fb cb mb s r : Nat} {v : Value} {cs : Array Value} {ids : List Nat} {p : Sp.Pl} (h : IsPlAt F R w gp gd gl at_ base fb cb mb v s r cs p.free ids p)
    {i : Nat} {rest : List Nat} (hfree : p.free = i :: rest) :
    Calls Tryz.prog 96 #[ptr gp] w (TakePost F R w gp gd gl at_ base fb cb mb i rest ids p) := by
  refine calls_of_wpN Tryz.func96 rfl ?_
  simp only [Tryz.ntmps96, List.size_toArray, List.length_cons, List.length_nil, Nat.reduceAdd, Nat.reduceSub, Array.replicate_succ, Array.replicate_zero, List.push_toArray, List.append_toArray, List.nil_append, List.cons_append]
  obtain ⟨c0, c1, c2, c3, c4, c5, c6, c7⟩ := h.cells
  have hc := h.chan
  rw [hfree] at hc
  have hch := h.chans (fl' := rest) (s' := s) (r' := r + 1)
  have hgr := grown_setChan w cb p.n (rest.map fun (i : Nat) => Value.int .i64 (i : Int)).toArray false s (r + 1) false
  have ht := (Turns.refl F w).grown hgr (fun k hk => .inl (by injection hk with hk; rw [← hk]; exact h.foot.2.2.1))
  have HCH := Lib.hid hch
  clear c0 c1 c2 c3 c4 c6 c7 hch hgr h
  refine wpN_seq_k ?_
  intro K hK
  go_wp2_with fail
  refine wpN_seq ?_
  refine wpN_seq_k ?_
  intro K hK
  go_wp2_with fail
  refine wpN_seq ?_
  refine wpN_region ?_
  change wpT _ _ _ [0, 1, 2] _ _
  refine T_select_recv 0 12 (c := cb) (cap := p.n) (buf := ((i :: rest).map fun (i : Nat) => Value.int .i64 (i : Int)).toArray) (s := s) (r := r) (closed := false) (tm := false) (z := .int .i64 0) (w' := w) rfl rfl (by rfl) ?_ hc (by simp) ?_
  · go_simp
    rfl
  simp only [List.setIfInBounds_toArray, List.set_cons_zero, List.set_cons_succ]
  obtain ⟨e1, e2⟩ := chan_pop i rest
  rw [e1, e2]
  clear e1 e2 hc c5
  generalize w.setChan cb p.n (rest.map fun (i : Nat) => Value.int .i64 (i : Int)).toArray false s (r + 1) false = w8 at *
  refine T_value 1 13 (v := .int .i64 0) (w' := w8) rfl rfl (by rfl) (by go_simp) ?_
  simp only [List.setIfInBounds_toArray, List.set_cons_zero, List.set_cons_succ]
  refine T_value 2 14 (v := .bool true) (w' := w8) rfl rfl (by rfl) (by go_simp) ?_
  simp only [List.setIfInBounds_toArray, List.set_cons_zero, List.set_cons_succ]
  refine T_done ?_
  simp only [Exit.then]
  refine wpN_of_wp ?_
  go_wp2_with fail
  go_ret2
  exact ⟨rfl, _, _, _, _, _, HCH.out, ht⟩

theorem row_cell {w : World} {b cap : Nat} {ids : List Nat} (h : w.ownsRow 0 33 1 (.slice (some ⟨b, 0, none⟩) ids.length cap) ids.length (ids.map fun (i : Nat) => Value.int .u32 (i : Int))) {k : Nat} (hk : k < ids.length) : w.cell? ⟨b, k, none⟩ = some (u32v ids[k]!) := by
  rcases h.2 with ⟨h0, _⟩ | ⟨g, c, cur, h0, _, hh, h1, h2, h3, h4⟩
  · cases h0
  · injection h0 with a1 a2 a3
    injection a1 with a1
    injection a1 with a1
    subst a1
    rw [cell_of_row w b k cur _ (0, 0) hh]
    have := congrArg (fun l => l[k]?) h4
    simp only [Nat.mul_one, List.getElem?_take, hk, if_true] at this
    rw [Array.getElem?_toList] at this
    rw [this]
    simp [hk]

/-- What holds behind the drop of a page: what X says of it. -/
def DropX (X : Sp.It → Foot → World → World → Prop) (R : Foot) (w : World) (gp gd gl at_ base fb cb mb : Nat) (fl ids : List Nat) (p : Sp.Pl) (it : Sp.It) (e : Ending) (w' : World) : Prop :=
  e = .returned (.int .i64 0) ∧ ∃ F' v' s' r' cs', IsPlAt F' R w' gp gd gl at_ base fb cb mb v' s' r' cs' (fl ++ [it.idx]) (ids.filter (fun x => !(x == it.page.id))) (p.drop it.page.id it.idx) ∧ X it F' w w'

/-- take, where no frame is free: the first of the row that is not pinned goes. -/
def ScanPost (X : Sp.It → Foot → World → World → Prop) (R : Foot) (w : World) (gp gd gl at_ base fb cb mb : Nat) (ids : List Nat) (p : Sp.Pl) (e : Ending) (w' : World) : Prop :=
  (e = .returned (.tuple #[.int .i64 0, .int .i64 4]) ∧ (∀ n ∈ ids, ∃ it, p.find n = some it ∧ 0 < it.pins) ∧ Turns noFoot noFoot w w') ∨
  ∃ pre it post, ids = pre ++ it.page.id :: post ∧ (∀ n ∈ pre, ∃ y, p.find n = some y ∧ 0 < y.pins) ∧ p.find it.page.id = some it ∧ it.pins = 0 ∧ e = .returned (.tuple #[.int .i64 it.idx, .int .i64 0]) ∧
    ∃ W w1 F' v' s' r' cs', Turns noFoot noFoot w W ∧ X it F' W w1 ∧ IsPlAt F' R w' gp gd gl at_ base fb cb mb v' s' r' cs' [] (ids.filter (fun x => !(x == it.page.id))) (p.drop it.page.id it.idx) ∧ Turns (only cb) (only cb) w1 w'

set_option maxRecDepth 100000 in
set_option maxHeartbeats 4000000 in
theorem pool_take_scan {F R : Foot} {w : World} {gp gd gl at_ base fb cb mb s r : Nat} {v : Value} {cs : Array Value} {ids : List Nat} {p : Sp.Pl} (h : IsPlAt F R w gp gd gl at_ base fb cb mb v s r cs p.free ids p)
    (hfree : p.free = []) (hin : ∀ n ∈ ids, n < 4294967296 ∧ ∃ it, p.find n = some it) (hl : ids.length ≤ 64) (X : Sp.It → Foot → World → World → Prop)
    (hD : ∀ it ∈ p.items, it.pins = 0 → ∀ W, IsPlAt F R W gp gd gl at_ base fb cb mb v s r cs p.free ids p → Turns noFoot noFoot w W → Calls Tryz.prog 136 #[ptr gp, u32v it.page.id] W (DropX X R W gp gd gl at_ base fb cb mb p.free ids p it)) :
    Calls Tryz.prog 96 #[ptr gp] w (ScanPost X R w gp gd gl at_ base fb cb mb ids p) := by
  refine calls_of_wpN Tryz.func96 rfl ?_
  simp only [Tryz.ntmps96, List.size_toArray, List.length_cons, List.length_nil, Nat.reduceAdd, Nat.reduceSub, Array.replicate_succ, Array.replicate_zero, List.push_toArray, List.append_toArray, List.nil_append, List.cons_append]
  have hc := h.chan
  rw [hfree] at hc
  obtain ⟨c0, c1, c2, c3, c4, c5, c6, c7⟩ := h.cells
  have H := Lib.hid h
  have HD := Lib.hid hD
  have HIN := Lib.hid hin
  have hids : ids = [] ∨ ∃ b cap, v = .slice (some ⟨b, 0, none⟩) ids.length cap ∧ ids.length ≤ cap := by
    rcases h.row.2 with ⟨_, h0⟩ | ⟨g, cap, cur, h0, _, hh, h1, h2, h3, h4⟩
    · exact .inl (List.eq_nil_of_length_eq_zero h0)
    · exact .inr ⟨g, cap, h0, h1⟩
  have hv : ∃ A n c, v = .slice A n c ∧ n = ids.length := by
    rcases h.row.2 with ⟨h0, h1⟩ | ⟨g, cap, cur, h0, _⟩
    · exact ⟨_, _, _, h0, h1.symm⟩
    · exact ⟨_, _, _, h0, rfl⟩
  obtain ⟨Av, nv, cv, rfl, rfl⟩ := hv
  clear c0 c1 c2 c3 c4 c6 h hD hin
  refine wpN_seq_k ?_
  intro K hK
  go_wp2_with fail
  refine wpN_seq ?_
  refine wpN_seq_k ?_
  intro K hK
  go_wp2_with fail
  refine wpN_seq ?_
  refine wpN_region ?_
  change wpT _ _ _ [0, 1, 2] _ _
  refine T_select_default 0 12 (c := cb) (cap := p.n) (s := s) (r := r) (tm := false) (z := .int .i64 0) (w' := w) rfl rfl (by rfl) ?_ hc ?_
  · go_simp
    rfl
  simp only [List.setIfInBounds_toArray, List.set_cons_zero, List.set_cons_succ]
  refine T_value 1 13 (v := .int .i64 (-1)) (w' := w) rfl rfl (by rfl) (by go_simp) ?_
  simp only [List.setIfInBounds_toArray, List.set_cons_zero, List.set_cons_succ]
  refine T_value 2 14 (v := .bool false) (w' := w) rfl rfl (by rfl) (by go_simp) ?_
  simp only [List.setIfInBounds_toArray, List.set_cons_zero, List.set_cons_succ]
  refine T_done ?_
  simp only [Exit.then]
  refine wpN_of_wp ?_
  go_wp2_with fail
  refine wpN_seq ?_
  refine wpN_seq_k ?_
  intro K hK
  go_wp2_with fail
  refine wpN_block ?_
  refine wpN_loop (fun a wr => ∃ (k : Nat) (u6 u23 u24 u25 u26 u27 u28 u29 u30 u31 u32 u33 u34 u35 u36 u37 u38 u39 u51 : Value), k ≤ ids.length ∧ a = { tmps := #[ptr gp, undef, .int .i64 0, .int .i64 0, undef, undef, u6, undef, ptr gp, .pointer (some ⟨gp, 0, none⟩), .pointer (some ⟨gp, 5, none⟩), .chan (some cb), .tuple #[goInt (-1), .bool false, .int .i64 0], .int .i64 (-1), .bool false, undef, undef, ptr gp, .pointer (some ⟨gp, 0, none⟩), .pointer (some ⟨gp, 7, none⟩), .slice Av ids.length cv, .int .i64 ids.length, .int .i64 (k : Nat), u23, u24, u25, u26, u27, u28, u29, u30, u31, u32, u33, u34, u35, u36, u37, u38, u39, undef, undef, undef, undef, undef, undef, undef, undef, undef, undef, undef, u51], defers := [] } ∧ Turns noFoot noFoot w wr ∧ ∀ n ∈ ids.take k, ∃ it, p.find n = some it ∧ 0 < it.pins) (fun a _ => ids.length - (intOf (a.tmps.getD 22 undef)).toNat) ?_ ?_
  · exact ⟨0, undef, undef, undef, undef, undef, undef, undef, undef, undef, undef, undef, undef, undef, undef, undef, undef, undef, undef, undef, Nat.zero_le _, rfl, Turns.refl _ _, by simp⟩
  rintro a wr ⟨k, u6, u23, u24, u25, u26, u27, u28, u29, u30, u31, u32, u33, u34, u35, u36, u37, u38, u39, u51, hk, rfl, htr, hpre⟩
  have hkp := H.out.keep htr.size (fun b hb => htr.block b (H.out.lt b hb) (fun e => e))
  by_cases hlt : k < ids.length
  · rcases hids with h0 | ⟨rb, rc, hv, hcap⟩
    · rw [h0] at hlt; exact absurd hlt (by simp)
    obtain ⟨rfl, rfl⟩ : Av = some ⟨rb, 0, none⟩ ∧ cv = rc := by injection hv with a1 a2 a3; exact ⟨a1, a3⟩
    have hck : wr.cell? ⟨rb, k, none⟩ = some (u32v ids[k]!) := by
      have := row_cell hkp.row hlt
      exact this
    obtain ⟨hid, it, hf⟩ := HIN.out ids[k]! (by rw [getElem!_pos _ k hlt]; exact List.getElem_mem hlt)
    have htk : ids.take (k + 1) = ids.take k ++ [ids[k]!] := by rw [List.take_succ_eq_append_getElem hlt, getElem!_pos _ k hlt]
    have hsplit : ids = ids.take k ++ ids[k]! :: ids.drop (k + 1) := by
      conv => lhs; rw [← List.take_append_drop k ids, List.drop_eq_getElem_cons hlt]
      rw [getElem!_pos _ k hlt]
    have hmeas : k + 1 ≤ ids.length := hlt
    have HTK := Lib.hid htk
    have HSP := Lib.hid hsplit
    clear htk hsplit
    generalize ids[k]! = id at *
    obtain ⟨hit, rfl⟩ := Sp.Pl.find_mem hf
    clear hv
    refine wpN_seq_k ?_
    intro K hK
    go_wp2_with fail
    refine wpN_seq_k ?_
    intro K hK
    go_wp2_with fail
    refine wpN_seq ?_
    refine wpN_block ?_
    refine wpN_seq_k ?_
    intro K hK
    go_wp2_with fail
    obtain ⟨c0, c1, c2, c3, c4, c5', c6, c7'⟩ := hkp.cells
    have cp := hkp.pins hit
    have hlk := (hkp.keep (w' := wr.drew) (Nat.le_refl _) (fun _ _ => rfl)).look hid hf
    have hlt9 := hkp.wf.idx_lt hit
    have hn64 := hkp.wf.n64
    have hS := Lib.hid (⟨c4, c6, hlk, cp⟩ : wr.drew.cell? ⟨gp, 4, none⟩ = some (.slice (some ⟨fb, 0, none⟩) p.n p.n) ∧ wr.drew.cell? ⟨gp, 6, none⟩ = some (.map (some mb)) ∧
      (Instr.lookup 138 (.map (some mb)) (u32v it.page.id) false).run Tryz.prog wr.drew = .ok (.int .i64 it.idx) wr.drew ∧ wr.drew.cell? ⟨fb, it.idx * 9 + 6, none⟩ = some (.int .i64 it.pins))
    have HKP := Lib.hid hkp
    clear c0 c1 c2 c3 c4 c5' c6 c7' cp hlk hkp hck
    refine wpN_seq_k ?_
    intro K hK
    go_wp2_with fail
    refine R_begin (fun W => W.cell? ⟨gp, 4, none⟩ = some (.slice (some ⟨fb, 0, none⟩) p.n p.n) ∧ W.cell? ⟨gp, 6, none⟩ = some (.map (some mb)) ∧
      (Instr.lookup 138 (.map (some mb)) (u32v it.page.id) false).run Tryz.prog W = .ok (.int .i64 it.idx) W ∧ W.cell? ⟨fb, it.idx * 9 + 6, none⟩ = some (.int .i64 it.pins)) (fun _ => false) rfl ?_
    refine R_take 0 26 (v := ?_) rfl rfl (by rfl) (by kernel_rfl) (fun _ _ _ h => h) hS.out ?_ ?_
    rotate_left
    · intro w hSw; (try dsimp only at hSw); go_simp; (try with_reducible rfl)
    simp only [List.setIfInBounds_toArray, List.set_cons_zero, List.set_cons_succ]
    refine R_take 1 27 (v := ?_) rfl rfl (by rfl) (by kernel_rfl) (fun _ _ _ h => h) hS.out ?_ ?_
    rotate_left
    · intro w hSw; (try dsimp only at hSw); go_simp; (try with_reducible rfl)
    simp only [List.setIfInBounds_toArray, List.set_cons_zero, List.set_cons_succ]
    refine R_take 2 28 (v := ?_) rfl rfl (by rfl) (by kernel_rfl) (fun _ _ _ h => h) hS.out ?_ ?_
    rotate_left
    · intro w hSw; (try dsimp only at hSw); go_simp; (try with_reducible rfl)
    simp only [List.setIfInBounds_toArray, List.set_cons_zero, List.set_cons_succ]
    refine R_take 3 29 (v := ?_) rfl rfl (by rfl) (by kernel_rfl) (fun _ _ _ h => h) hS.out ?_ ?_
    rotate_left
    · intro w hSw; (try dsimp only at hSw); go_simp; (try with_reducible rfl)
    simp only [List.setIfInBounds_toArray, List.set_cons_zero, List.set_cons_succ]
    refine R_take 4 30 (v := ?_) rfl rfl (by rfl) (by kernel_rfl) (fun _ _ _ h => h) hS.out ?_ ?_
    rotate_left
    · intro w hSw; (try dsimp only at hSw); go_simp; (try with_reducible rfl)
    simp only [List.setIfInBounds_toArray, List.set_cons_zero, List.set_cons_succ]
    refine R_take 5 31 (v := ?_) rfl rfl (by rfl) (by kernel_rfl) (fun _ _ _ h => h) hS.out ?_ ?_
    rotate_left
    · intro w hSw; (try dsimp only at hSw); go_simp; (try with_reducible rfl)
    simp only [List.setIfInBounds_toArray, List.set_cons_zero, List.set_cons_succ]
    refine R_take 6 32 (v := ?_) rfl rfl (by rfl) (by kernel_rfl) (fun _ _ _ h => h) hS.out ?_ ?_
    rotate_left
    · intro w hSw; (try dsimp only at hSw); go_simp; (try with_reducible rfl)
    simp only [List.setIfInBounds_toArray, List.set_cons_zero, List.set_cons_succ]
    refine R_take 7 33 (v := ?_) rfl rfl (by rfl) (by kernel_rfl) (fun _ _ _ h => h) hS.out ?_ ?_
    rotate_left
    · intro w hSw; (try dsimp only at hSw); go_simp; (try with_reducible rfl)
    simp only [List.setIfInBounds_toArray, List.set_cons_zero, List.set_cons_succ]
    refine R_take 8 34 (v := ?_) rfl rfl (by rfl) (by kernel_rfl) (fun _ _ _ h => h) hS.out ?_ ?_
    rotate_left
    · intro w hSw; (try dsimp only at hSw); go_simp; (try with_reducible rfl)
    simp only [List.setIfInBounds_toArray, List.set_cons_zero, List.set_cons_succ]
    refine R_take 9 35 (v := ?_) rfl rfl (by rfl) (by kernel_rfl) (fun _ _ _ h => h) hS.out ?_ ?_
    rotate_left
    · intro w hSw; (try dsimp only at hSw); go_simp; (try with_reducible rfl)
    simp only [List.setIfInBounds_toArray, List.set_cons_zero, List.set_cons_succ]
    refine R_take 10 36 (v := ?_) rfl rfl (by rfl) (by kernel_rfl) (fun _ _ _ h => h) hS.out ?_ ?_
    rotate_left
    · intro w hSw; (try dsimp only at hSw); go_simp; (try with_reducible rfl)
    simp only [List.setIfInBounds_toArray, List.set_cons_zero, List.set_cons_succ]
    refine R_take 11 37 (v := ?_) rfl rfl (by rfl) (by kernel_rfl) (fun _ _ _ h => h) hS.out ?_ ?_
    rotate_left
    · intro w hSw; (try dsimp only at hSw); go_simp; (try with_reducible rfl)
    simp only [List.setIfInBounds_toArray, List.set_cons_zero, List.set_cons_succ]
    refine R_take 12 38 (v := ?_) rfl rfl (by rfl) (by kernel_rfl) (fun _ _ _ h => h) hS.out ?_ ?_
    rotate_left
    · intro w hSw; (try dsimp only at hSw); go_simp; (try with_reducible rfl)
    simp only [List.setIfInBounds_toArray, List.set_cons_zero, List.set_cons_succ]
    refine R_take 13 39 (v := .bool (decide (0 < it.pins))) rfl rfl (by rfl) (by kernel_rfl) (fun _ _ _ h => h) hS.out ?_ ?_
    · intro w hSw; (try dsimp only at hSw); go_simp
    simp only [List.setIfInBounds_toArray, List.set_cons_zero, List.set_cons_succ]
    refine R_done (by kernel_rfl) ?_ _
    rename_i K9 hK9
    refine hK9 _ _ ?_
    have htd := htr.drew
    have hkd := HKP.out.keep (w' := wr.drew) (Nat.le_refl _) (fun _ _ => rfl)
    clear hS HKP htr
    generalize wr.drew = wd at *
    have HKD := Lib.hid hkd
    clear hkd
    go_wp2_with fail
    · rename_i hp
      refine wpN_of_wp ?_
      go_wp2_with fail
      refine ⟨⟨k + 1, hmeas, ⟨_, _, _, _, _, _, _, _, _, _, _, _, _, _, _, _, _, _, _, rfl⟩, htd, fun n hn => ?_⟩, by simp [intOf]; omega⟩
      rw [HTK.out] at hn
      rcases List.mem_append.1 hn with hn | hn
      · exact hpre n hn
      · rw [List.mem_singleton.1 hn]
        exact ⟨it, hf, hp⟩
    · rename_i hp
      have hp0 : it.pins = 0 := by omega
      have HDD := Lib.hid (HD.out it hit hp0 wd HKD.out htd)
      clear HD HKD
      refine wpN_seq_k ?_
      intro K hK
      go_wp2_with fail
      refine HDD.out.mono ?_
      rintro e w1 ⟨rfl, F', v', s', r', cs', h1, hX⟩
      rw [hfree, List.nil_append] at h1
      go_wp2_with fail
      obtain ⟨c0, c1, c2, c3, c4, c5', c6, c7'⟩ := h1.cells
      have hc1 := h1.chan
      have hch := h1.chans (fl' := []) (s' := s') (r' := r' + 1)
      change IsPlAt _ _ (w1.setChan cb p.n _ _ _ _ _) _ _ _ _ _ _ _ _ _ _ _ _ _ _ _ at hch
      have hgr := grown_setChan w1 cb p.n (([] : List Nat).map fun (i : Nat) => Value.int .i64 (i : Int)).toArray false s' (r' + 1) false
      have ht9 := (Turns.refl (only cb) w1).grown hgr (fun k hk => .inl (by injection hk with hk; exact hk.symm))
      have HCH := Lib.hid hch
      clear c0 c1 c2 c3 c4 c6 c7' hch hgr h1
      refine wpN_seq ?_
      refine wpN_region ?_
      change wpT _ _ _ [0, 1, 2, 3, 4, 5, 6] _ _
      refine T_value 0 46 (v := ptr gp) (w' := w1) rfl rfl (by rfl) (by go_simp) ?_
      simp only [List.setIfInBounds_toArray, List.set_cons_zero, List.set_cons_succ]
      refine T_value 1 47 (v := ptr gp) (w' := w1) rfl rfl (by rfl) (by go_simp) ?_
      simp only [List.setIfInBounds_toArray, List.set_cons_zero, List.set_cons_succ]
      refine T_value 2 48 (v := .pointer (some ⟨gp, 5, none⟩)) (w' := w1) rfl rfl (by rfl) (by go_simp) ?_
      simp only [List.setIfInBounds_toArray, List.set_cons_zero, List.set_cons_succ]
      refine T_value 3 49 (v := .chan (some cb)) (w' := w1) rfl rfl (by rfl) (by go_simp) ?_
      simp only [List.setIfInBounds_toArray, List.set_cons_zero, List.set_cons_succ]
      refine T_recv 4 50 (c := cb) (cap := p.n) (buf := ([it.idx].map fun (i : Nat) => Value.int .i64 (i : Int)).toArray) (s := s') (r := r') (closed := false) (tm := false) (z := .int .i64 0) (w' := w1) rfl rfl (by rfl) ?_ hc1 (by simp) ?_
      · go_simp
        rfl
      simp only [List.setIfInBounds_toArray, List.set_cons_zero, List.set_cons_succ]
      obtain ⟨e1, e2⟩ := chan_pop it.idx []
      rw [e1, e2]
      clear e1 e2 hc1 c5'
      generalize w1.setChan cb p.n (([] : List Nat).map fun (i : Nat) => Value.int .i64 (i : Int)).toArray false s' (r' + 1) false = w9 at *
      refine T_value 5 2 (v := .int .i64 it.idx) (w' := w9) rfl rfl (by rfl) (by go_simp) ?_
      simp only [List.setIfInBounds_toArray, List.set_cons_zero, List.set_cons_succ]
      refine T_value 6 3 (v := .int .i64 0) (w' := w9) rfl rfl (by rfl) (by go_simp) ?_
      simp only [List.setIfInBounds_toArray, List.set_cons_zero, List.set_cons_succ]
      refine T_done ?_
      simp only [Exit.then]
      refine wpN_of_wp ?_
      go_wp2_with fail
      go_ret2
      exact .inr ⟨ids.take k, it, ids.drop (k + 1), HSP.out, hpre, hf, hp0, rfl, wd, w1, F', v', s', r' + 1, cs', htd, hX, HCH.out, ht9⟩
  · obtain rfl : k = ids.length := by omega
    rw [List.take_length] at hpre
    clear hkp
    refine wpN_seq_k ?_
    intro K hK
    go_wp2_with fail
    refine wpN_seq_k ?_
    intro K hK
    go_wp2_with fail
    refine wpN_of_wp ?_
    go_wp2_with fail
    go_ret2
    exact .inl ⟨rfl, hpre, htr⟩
end Go.Proofs.YtafopojibpifoaaGreat

/- The walks of package pool: brings. -/
namespace Go.Proofs.YtafopojibpifoaaGreat
open Go.RowKit Go.Conc

abbrev pgCs (x : Sp.Pg) (A : Option Addr) (c : Nat) : Array Value := #[.int .u8 x.kind, .int .u8 x.level, .int .u32 x.id, .int .u64 x.lsn, .int .u32 x.next, .slice A x.rows.length c]

/-- What brings asks of take: a frame, and what Z says; or none. -/
def TookPost (Z : Nat → Sp.Pl → List Nat → Foot → World → Prop) (Z4 : World → Prop) (H R : Foot) (w : World) (gp gd gl at_ base fb cb mb id : Nat) (e : Ending) (w' : World) : Prop :=
  (e = .returned (.tuple #[.int .i64 0, .int .i64 4]) ∧ Z4 w' ∧ Turns H H w w') ∨
  ∃ (i : Nat) (p' : Sp.Pl) (F' H' : Foot) (v' : Value) (s' r' : Nat) (cs' : Array Value) (ids' rest : List Nat), e = .returned (.tuple #[.int .i64 i, .int .i64 0]) ∧ IsPlAt F' R w' gp gd gl at_ base fb cb mb v' s' r' cs' rest ids' p' ∧ p'.free = i :: rest ∧ p'.find id = none ∧ Turns H H' w w' ∧ (∀ b, F' b → H' b) ∧ Z i p' ids' H' w'

def BringPost (Z : Nat → Sp.Pl → List Nat → Foot → World → Prop) (Z4 : World → Prop) (H R G : Foot) (w : World) (gp gd gl at_ base fb cb mb : Nat) (x : Sp.Pg) (e : Ending) (w' : World) : Prop :=
  (e = .returned (.int .i64 4) ∧ Z4 w' ∧ Turns H H w w') ∨
  ∃ (i : Nat) (p' : Sp.Pl) (F' H' : Foot) (v' : Value) (s' r' : Nat) (cs' : Array Value) (ids' rest : List Nat) (w2 : World), e = .returned (.int .i64 0) ∧ IsPlAt (fun b => F' b ∨ G b) (fun b => R b ∨ G b) w' gp gd gl at_ base fb cb mb v' s' r' cs' rest ids' (p'.bring x i rest) ∧ p'.free = i :: rest ∧ p'.find x.id = none ∧ Turns H H' w w2 ∧ (∀ b, F' b → H' b) ∧ Z i p' ids' H' w2 ∧ Turns F' F' w2 w'

set_option maxRecDepth 100000 in
set_option maxHeartbeats 4000000 in
theorem pool_brings {H R G : Foot} {w : World} {gp gd gl at_ base fb cb mb : Nat} {x : Sp.Pg} {A : Option Addr} {c : Nat} (hx : x.wf ∧ x.may) (hA : OkAddr A) (hR : RowsAt G w A x.rows) (hG : ∀ b, G b → ¬ H b ∧ b < w.heap.size) (hH : ∀ b, H b → b < w.heap.size)
    (Z : Nat → Sp.Pl → List Nat → Foot → World → Prop) (Z4 : World → Prop)
    (hT : Calls Tryz.prog 96 #[ptr gp] (w.alloc (.cells (pgCs x A c) 51)) (TookPost Z Z4 H R (w.alloc (.cells (pgCs x A c) 51)) gp gd gl at_ base fb cb mb x.id)) :
    Calls Tryz.prog 64 #[ptr gp, pgV x A c] w (BringPost Z Z4 H R G w gp gd gl at_ base fb cb mb x) := by
  have HT := Lib.hid hT
  have hb0 := Blk.new w 51 (pgCs x A c)
  have hR0 := Reads.below hR ((Below.refl w.heap.size w).alloc (Nat.le_refl _) (.cells (pgCs x A c) 51))
  have ht0 := (Turns.refl H w).alloc (.cells (pgCs x A c) 51)
  clear hT hR
  go_enter Tryz.func64, Tryz.ntmps64
  go_wp2_with fail
  obtain ⟨w1, hw1⟩ : ∃ w1, w1 = w.alloc (.cells (pgCs x A c) 51) := ⟨_, rfl⟩
  rw [← hw1] at HT hb0 hR0 ht0 ⊢
  obtain ⟨g3, hg3⟩ : ∃ g, g = w.heap.size := ⟨_, rfl⟩
  have hg3l : w.heap.size ≤ g3 := by omega
  rw [← hg3] at hb0 ⊢
  clear hw1 hg3
  refine HT.out.mono ?_
  rintro e w2 (⟨rfl, hz, htz⟩ | ⟨i, p', F', H', v', s', r', cs', ids', rest, rfl, h2, hfree, hnone, ht2, hF', hZ⟩)
  · go_wp2_with fail
    go_ret
    exact .inl ⟨rfl, hz, ht0.trans htz⟩
  have hnH : ¬ H g3 := fun h => by have := hH g3 h; omega
  have hb2 := hb0.turns ht2 hnH
  have hR2 := hR0.keep ht2.size (fun b hb => ht2.block b (by have := (hG b hb).2; have := ht0.size; omega) (hG b hb).1)
  have hGF : ∀ b, G b → ¬ F' b ∧ b < w2.heap.size := fun b hb => by
    have h1 := hG b hb
    have h2 := ht0.size
    have h3 := ht2.size
    refine ⟨fun hf => ?_, by omega⟩
    rcases ht2.foot b (hF' b hf) with h | h
    · exact h1.1 h
    · omega
  have hg3F : ¬ F' g3 := fun hf => by
    have := hb0.lt
    rcases ht2.foot g3 (hF' g3 hf) with h | h
    · exact hnH h
    · omega
  have hlt9 := h2.wf.free_lt (i := i) (by rw [hfree]; simp)
  have hn64 := h2.wf.n64
  have hlen := h2.wf.len
  obtain ⟨c0, c1, c2, c3, c4, c5, c6, c7⟩ := h2.cells
  have hcs := h2.fr.size
  have hB2 := h2.fr.blk
  have H2 := Lib.hid h2
  have hS := Lib.hid (⟨c4, hb2⟩ : w2.drew.cell? ⟨gp, 4, none⟩ = some (.slice (some ⟨fb, 0, none⟩) p'.n p'.n) ∧ Blk w2.drew g3 51 (pgCs x A c))
  clear c0 c1 c2 c3 c4 c5 c6 c7 h2 HT hb0 hR0
  go_wp2_with fail
  refine R_begin (fun W => W.cell? ⟨gp, 4, none⟩ = some (.slice (some ⟨fb, 0, none⟩) p'.n p'.n) ∧ Blk W g3 51 (pgCs x A c)) (fun j => j == 8) rfl ?_
  refine R_take 0 15 (v := ?_) rfl rfl (by rfl) (by kernel_rfl) (fun _ _ _ h => h) hS.out ?_ ?_
  rotate_left
  · intro w hSw; (try dsimp only at hSw); go_simp; (try with_reducible rfl)
  simp only [List.setIfInBounds_toArray, List.set_cons_zero, List.set_cons_succ]
  refine R_take 1 16 (v := ?_) rfl rfl (by rfl) (by kernel_rfl) (fun _ _ _ h => h) hS.out ?_ ?_
  rotate_left
  · intro w hSw; (try dsimp only at hSw); go_simp; (try with_reducible rfl)
  simp only [List.setIfInBounds_toArray, List.set_cons_zero, List.set_cons_succ]
  refine R_take 2 17 (v := ?_) rfl rfl (by rfl) (by kernel_rfl) (fun _ _ _ h => h) hS.out ?_ ?_
  rotate_left
  · intro w hSw; (try dsimp only at hSw); go_simp; (try with_reducible rfl)
  simp only [List.setIfInBounds_toArray, List.set_cons_zero, List.set_cons_succ]
  refine R_take 3 18 (v := ?_) rfl rfl (by rfl) (by kernel_rfl) (fun _ _ _ h => h) hS.out ?_ ?_
  rotate_left
  · intro w hSw; (try dsimp only at hSw); go_simp; (try with_reducible rfl)
  simp only [List.setIfInBounds_toArray, List.set_cons_zero, List.set_cons_succ]
  refine R_take 4 19 (v := ?_) rfl rfl (by rfl) (by kernel_rfl) (fun _ _ _ h => h) hS.out ?_ ?_
  rotate_left
  · intro w hSw; (try dsimp only at hSw); go_simp; (try with_reducible rfl)
  simp only [List.setIfInBounds_toArray, List.set_cons_zero, List.set_cons_succ]
  refine R_take 5 20 (v := pgV x A c) rfl rfl (by rfl) (by kernel_rfl) (fun _ _ _ h => h) hS.out ?_ ?_
  · intro w hSw
    exact run_op_load _ _ _ rfl rfl (run_loadVar_row w g3 _ _ _ _ _ hSw.2 Tryz.underlying51 rfl rfl)
  simp only [List.setIfInBounds_toArray, List.set_cons_zero, List.set_cons_succ]
  refine R_take 6 21 (v := .agg (frCells ⟨x, 0, false, 0, i⟩ A c).toArray) rfl rfl (by rfl) (by kernel_rfl) (fun _ _ _ h => h) hS.out ?_ ?_
  · intro w hSw
    go_simp
    rfl
  simp only [List.setIfInBounds_toArray, List.set_cons_zero, List.set_cons_succ]
  refine R_take 7 22 (v := ?_) rfl rfl (by rfl) (by kernel_rfl) (fun _ _ _ h => h) hS.out ?_ ?_
  rotate_left
  · intro w hSw; (try dsimp only at hSw); go_simp; (try with_reducible rfl)
  simp only [List.setIfInBounds_toArray, List.set_cons_zero, List.set_cons_succ]
  refine R_store 8 (n := .skip) (w' := w2.drew.setRow fb (partRow cs' (i * 9) (frCells ⟨x, 0, false, 0, i⟩ A c))) rfl rfl (by rfl) (by kernel_rfl) (run_op_store _ _ _ _ _ rfl rfl rfl (run_storeVar_part w2.drew fb (i * 9) _ _ cs' (frCells ⟨x, 0, false, 0, i⟩ A c).toArray hB2 fr_size (by rw [hcs]; show i * 9 + 9 ≤ p'.n * 9; omega) (frCells_one _ A c))) (.inl rfl) (fun h => nomatch h) ?_
  refine R_done (by kernel_rfl) ?_ _
  rename_i K9 hK9
  refine hK9 _ _ ?_
  obtain ⟨f1, f2, f3, f4, f5⟩ := H2.out.foot
  obtain ⟨n1, n2, n3, n4, n5, n6⟩ := H2.out.ne
  have hB4 := Blk.setRow (w := w2.drew) hB2 (partRow cs' (i * 9) (frCells ⟨x, 0, false, 0, i⟩ A c))
  have hk4 : ∀ b, b ≠ fb → (w2.drew.setRow fb (partRow cs' (i * 9) (frCells ⟨x, 0, false, 0, i⟩ A c))).heap[b]? = w2.heap[b]? := fun b hb => setRow_other w2.drew fb b _ hb
  have ht4 := (Turns.refl F' w2).drew.setRow (g := fb) (.inl f2) (partRow cs' (i * 9) (frCells ⟨x, 0, false, 0, i⟩ A c))
  have hg3b : g3 ≠ fb := fun e => hg3F (e ▸ f2)
  have hb4 := hb2.keep (hk4 g3 hg3b)
  have hP4 := H2.out.blk.keep (hk4 gp n1)
  have hM4 := H2.out.map.keep (hk4 mb (Ne.symm n5))
  obtain ⟨w4, hw4⟩ : ∃ w4, w4 = w2.drew.setRow fb (partRow cs' (i * 9) (frCells ⟨x, 0, false, 0, i⟩ A c)) := ⟨_, rfl⟩
  rw [← hw4] at hB4 hk4 ht4 hb4 hP4 hM4 ⊢
  clear hw4 hS
  have c6 := hP4.cell 6
  have ci := hb4.cell 2
  simp only [plCells, pgCs, List.getElem?_toArray, List.getElem?_cons_succ, List.getElem?_cons_zero] at c6 ci
  have hS := Lib.hid (⟨c6, ci⟩ : w4.drew.cell? ⟨gp, 6, none⟩ = some (.map (some mb)) ∧ w4.drew.cell? ⟨g3, 2, none⟩ = some (u32v x.id))
  have hid : x.id < 4294967296 := hx.1.2.2.1
  clear c6 ci
  go_wp2_with fail
  refine R_begin (fun W => W.cell? ⟨gp, 6, none⟩ = some (.map (some mb)) ∧ W.cell? ⟨g3, 2, none⟩ = some (u32v x.id)) (fun j => j == 7) rfl ?_
  refine R_take 0 23 (v := ?_) rfl rfl (by rfl) (by kernel_rfl) (fun _ _ _ h => h) hS.out ?_ ?_
  rotate_left
  · intro w hSw; (try dsimp only at hSw); go_simp; (try with_reducible rfl)
  simp only [List.setIfInBounds_toArray, List.set_cons_zero, List.set_cons_succ]
  refine R_take 1 24 (v := ?_) rfl rfl (by rfl) (by kernel_rfl) (fun _ _ _ h => h) hS.out ?_ ?_
  rotate_left
  · intro w hSw; (try dsimp only at hSw); go_simp; (try with_reducible rfl)
  simp only [List.setIfInBounds_toArray, List.set_cons_zero, List.set_cons_succ]
  refine R_take 2 25 (v := ?_) rfl rfl (by rfl) (by kernel_rfl) (fun _ _ _ h => h) hS.out ?_ ?_
  rotate_left
  · intro w hSw; (try dsimp only at hSw); go_simp; (try with_reducible rfl)
  simp only [List.setIfInBounds_toArray, List.set_cons_zero, List.set_cons_succ]
  refine R_take 3 26 (v := ?_) rfl rfl (by rfl) (by kernel_rfl) (fun _ _ _ h => h) hS.out ?_ ?_
  rotate_left
  · intro w hSw; (try dsimp only at hSw); go_simp; (try with_reducible rfl)
  simp only [List.setIfInBounds_toArray, List.set_cons_zero, List.set_cons_succ]
  refine R_take 4 27 (v := ?_) rfl rfl (by rfl) (by kernel_rfl) (fun _ _ _ h => h) hS.out ?_ ?_
  rotate_left
  · intro w hSw; (try dsimp only at hSw); go_simp; (try with_reducible rfl)
  simp only [List.setIfInBounds_toArray, List.set_cons_zero, List.set_cons_succ]
  refine R_take 5 28 (v := ?_) rfl rfl (by rfl) (by kernel_rfl) (fun _ _ _ h => h) hS.out ?_ ?_
  rotate_left
  · intro w hSw; (try dsimp only at hSw); go_simp; (try with_reducible rfl)
  simp only [List.setIfInBounds_toArray, List.set_cons_zero, List.set_cons_succ]
  refine R_take 6 29 (v := ?_) rfl rfl (by rfl) (by kernel_rfl) (fun _ _ _ h => h) hS.out ?_ ?_
  rotate_left
  · intro w hSw; (try dsimp only at hSw); go_simp; (try with_reducible rfl)
  simp only [List.setIfInBounds_toArray, List.set_cons_zero, List.set_cons_succ]
  obtain ⟨w5, hput, hM5, hg5⟩ := UMap.put (w := w4.drew) hM4.drew Tryz.underlying33 Tryz.underlying3 Tryz.underlying138 (by omega) hid (i := i) (by omega) (by simp [Sp.Pl.lk, hnone])
  refine R_store 7 (n := .skip) (w' := w5) rfl rfl (by rfl) (by kernel_rfl) (by go_simp) (.inl rfl) (fun h => nomatch h) ?_
  refine R_done (by kernel_rfl) ?_ _
  rename_i K8 hK8
  refine hK8 _ _ ?_
  have ht5 := ht4.drew.grown hg5 (fun k hk => .inl (by injection hk with hk; rw [← hk]; exact f4))
  have hB5 := hB4.drew.grown hg5 (fun e => n5 (by injection e))
  have hsz9 : i * 9 + 9 ≤ cs'.size := by omega
  have hR5 := hR2.keep ht5.size (fun b hb => (ht5.block b (hGF b hb).2 (hGF b hb).1))
  have hbr := H2.out.bring (w' := w5) (x := x) (A := A) (c := c) (G := G) hfree hnone hx ht5.size (fun b hb h1 h2 => (hg5.block b (by have := H2.out.lt b hb; have := ht4.size; simp; omega) (fun e => h2 (by injection e))).trans (hk4 b h1)) hB5 (Framed.part rfl hsz9) hA hR5 (fun b hb => ⟨(hGF b hb).1, Nat.lt_of_lt_of_le (hGF b hb).2 ht5.size⟩) (fun j hj => part_at rfl hsz9 hj) hM5
  have HB := Lib.hid hbr
  clear hbr hg5 hput hM5 hM4 hP4 hB4 hB5 hk4 H2 hS
  go_wp2_with fail
  go_ret
  refine .inr ⟨i, p', F', H', v', s', r', _, ids', rest, w2, rfl, HB.out, hfree, hnone, ?_, hF', hZ, ht5⟩
  exact ht0.trans ht2
end Go.Proofs.YtafopojibpifoaaGreat

/- Rows of leaves, and undo records, as bytes: plain laws. No program is named here. -/
namespace Go.Proofs.YtafopojibpifoaaGreat.Sp

/-- A row: who wrote it last, where what was ahead is, how many bytes its place has besides. -/
structure Rw where
  key : Bs
  mark : Bool
  tx : Nat
  page : Nat
  slot : Nat
  value : Bs
  pad : Nat
def Rw.zero : Rw := ⟨[], false, 0, 0, 0, [], 0⟩
def Rw.may (r : Rw) : Prop := 1 ≤ r.key.length ∧ r.key.length ≤ 48 ∧ r.value.length + r.pad ≤ 96 ∧ r.page ≤ 1024 ∧ (r.page = 0 → r.slot = 0)
def Rw.wf (r : Rw) : Prop := r.tx < 18446744073709551616 ∧ r.slot < 65536
def Rw.markN (r : Rw) : Nat := if r.mark then 1 else 0
/-- Its first sixteen bytes. -/
def Rw.head (r : Rw) : Bs := be 1 r.markN ++ be 8 r.tx ++ be 4 r.page ++ be 2 r.slot ++ be 1 r.key.length
def Rw.bytes (r : Rw) : Bs := r.head ++ r.key ++ be 1 r.value.length ++ r.value ++ zeros r.pad

theorem Rw.head_length (r : Rw) : r.head.length = 16 := by simp [head]
theorem zeros_length (n : Nat) : (zeros n).length = n := by simp [zeros]
theorem Rw.bytes_length (r : Rw) : r.bytes.length = 17 + r.key.length + r.value.length + r.pad := by
  simp [bytes, head_length, zeros_length]; omega
theorem Rw.markN_lt (r : Rw) : r.markN < 256 := by unfold markN; split <;> omega

theorem num_mid {x z : Bs} {k n m v : Nat} (hk : k = x.length) (hn : n = m) (hv : v < 256 ^ m) : num (((x ++ be m v ++ z).drop k).take n) = v := by
  subst hn
  rw [take2_mid hk (by simp), num_be_lt hv]

theorem Rw.at_mark (r : Rw) (t : Bs) : num (((r.bytes ++ t).drop 0).take 1) = r.markN := by
  have e : r.bytes ++ t = [] ++ be 1 r.markN ++ (be 8 r.tx ++ be 4 r.page ++ be 2 r.slot ++ be 1 r.key.length ++ r.key ++ be 1 r.value.length ++ r.value ++ zeros r.pad ++ t) := by simp [bytes, head]
  rw [e]
  exact num_mid rfl rfl r.markN_lt
theorem Rw.at_tx (r : Rw) (h : r.wf) (t : Bs) : num (((r.bytes ++ t).drop 1).take 8) = r.tx := by
  have e : r.bytes ++ t = be 1 r.markN ++ be 8 r.tx ++ (be 4 r.page ++ be 2 r.slot ++ be 1 r.key.length ++ r.key ++ be 1 r.value.length ++ r.value ++ zeros r.pad ++ t) := by simp [bytes, head]
  rw [e]
  exact num_mid (by simp) rfl h.1
theorem Rw.at_page (r : Rw) (h : r.may) (t : Bs) : num (((r.bytes ++ t).drop 9).take 4) = r.page := by
  have e : r.bytes ++ t = (be 1 r.markN ++ be 8 r.tx) ++ be 4 r.page ++ (be 2 r.slot ++ be 1 r.key.length ++ r.key ++ be 1 r.value.length ++ r.value ++ zeros r.pad ++ t) := by simp [bytes, head]
  rw [e]
  exact num_mid (by simp) rfl (by have := h.2.2.2.1; omega)
theorem Rw.at_slot (r : Rw) (h : r.wf) (t : Bs) : num (((r.bytes ++ t).drop 13).take 2) = r.slot := by
  have e : r.bytes ++ t = (be 1 r.markN ++ be 8 r.tx ++ be 4 r.page) ++ be 2 r.slot ++ (be 1 r.key.length ++ r.key ++ be 1 r.value.length ++ r.value ++ zeros r.pad ++ t) := by simp [bytes, head]
  rw [e]
  exact num_mid (by simp) rfl h.2
theorem Rw.at_klen (r : Rw) (h : r.may) (t : Bs) : num (((r.bytes ++ t).drop 15).take 1) = r.key.length := by
  have e : r.bytes ++ t = (be 1 r.markN ++ be 8 r.tx ++ be 4 r.page ++ be 2 r.slot) ++ be 1 r.key.length ++ (r.key ++ be 1 r.value.length ++ r.value ++ zeros r.pad ++ t) := by simp [bytes, head]
  rw [e]
  exact num_mid (by simp) rfl (by have := h.2.1; omega)
theorem Rw.at_key (r : Rw) (t : Bs) : ((r.bytes ++ t).drop 16).take r.key.length = r.key := by
  have e : r.bytes ++ t = r.head ++ r.key ++ (be 1 r.value.length ++ r.value ++ zeros r.pad ++ t) := by simp [bytes]
  rw [e]
  exact take2_mid r.head_length.symm rfl
theorem Rw.at_vlen (r : Rw) (h : r.may) (t : Bs) : num (((r.bytes ++ t).drop (16 + r.key.length)).take 1) = r.value.length := by
  have e : r.bytes ++ t = (r.head ++ r.key) ++ be 1 r.value.length ++ (r.value ++ zeros r.pad ++ t) := by simp [bytes]
  rw [e]
  exact num_mid (by simp [head_length]) rfl (by have := h.2.2.1; omega)
theorem Rw.at_value (r : Rw) (t : Bs) : ((r.bytes ++ t).drop (17 + r.key.length)).take r.value.length = r.value := by
  have e : r.bytes ++ t = (r.head ++ r.key ++ be 1 r.value.length) ++ r.value ++ (zeros r.pad ++ t) := by simp [bytes]
  rw [e]
  exact take2_mid (by simp [head_length]; omega) rfl

/-- An undo record: kind 1: there was no such row; 2: there was one. -/
structure Ud where
  kind : Nat
  tx : Nat
  ppage : Nat
  pslot : Nat
  key : Bs
  was : Rw
def Ud.may (u : Ud) : Prop := 1 ≤ u.tx ∧ u.ppage ≤ 1024 ∧ (u.ppage = 0 → u.pslot = 0) ∧ 1 ≤ u.key.length ∧ u.key.length ≤ 48 ∧ (u.kind = 1 ∧ u.was = .zero ∨ u.kind = 2 ∧ u.was.key = u.key ∧ u.was.may)
def Ud.wf (u : Ud) : Prop := u.tx < 18446744073709551616 ∧ u.pslot < 65536 ∧ u.was.wf
def Ud.head (u : Ud) : Bs := be 1 u.kind ++ be 8 u.tx ++ be 4 u.ppage ++ be 2 u.pslot
def Ud.tail (u : Ud) : Bs := if u.kind = 1 then u.key else u.was.bytes
def Ud.bytes (u : Ud) : Bs := u.head ++ u.tail
theorem Ud.head_length (u : Ud) : u.head.length = 15 := by simp [head]
theorem Ud.bytes_length (u : Ud) : u.bytes.length = 15 + u.tail.length := by simp [bytes, head_length]
theorem Ud.tail_le {u : Ud} (h : u.may) : u.tail.length ≤ 161 := by
  obtain ⟨_, _, _, _, hk, h⟩ := h
  unfold tail
  split
  · omega
  · rcases h with ⟨h, _⟩ | ⟨_, hkk, h⟩
    · contradiction
    · rw [Rw.bytes_length]
      obtain ⟨h1, h2, h3, _⟩ := h
      omega
theorem Ud.at_kind (u : Ud) (h : u.may) : num ((u.bytes.drop 0).take 1) = u.kind := by
  have e : u.bytes = [] ++ be 1 u.kind ++ (be 8 u.tx ++ be 4 u.ppage ++ be 2 u.pslot ++ u.tail) := by simp [bytes, head]
  rw [e]
  refine num_mid rfl rfl ?_
  rcases h.2.2.2.2.2 with h | h <;> omega
theorem Ud.at_tx (u : Ud) (h : u.wf) : num ((u.bytes.drop 1).take 8) = u.tx := by
  have e : u.bytes = be 1 u.kind ++ be 8 u.tx ++ (be 4 u.ppage ++ be 2 u.pslot ++ u.tail) := by simp [bytes, head]
  rw [e]
  exact num_mid (by simp) rfl h.1
theorem Ud.at_ppage (u : Ud) (h : u.may) : num ((u.bytes.drop 9).take 4) = u.ppage := by
  have e : u.bytes = (be 1 u.kind ++ be 8 u.tx) ++ be 4 u.ppage ++ (be 2 u.pslot ++ u.tail) := by simp [bytes, head]
  rw [e]
  exact num_mid (by simp) rfl (by have := h.2.1; omega)
theorem Ud.at_pslot (u : Ud) (h : u.wf) : num ((u.bytes.drop 13).take 2) = u.pslot := by
  have e : u.bytes = (be 1 u.kind ++ be 8 u.tx ++ be 4 u.ppage) ++ be 2 u.pslot ++ u.tail := by simp [bytes, head]
  rw [e]
  exact num_mid (by simp) rfl h.2.1
theorem Ud.at_tail (u : Ud) : u.bytes.drop 15 = u.tail := by
  unfold bytes
  rw [← u.head_length, List.drop_left]
end Go.Proofs.YtafopojibpifoaaGreat.Sp

/- Trees of rows: keys in order, entries of inner pages, leaves below a root: plain laws. No program is named here. -/
namespace Go.Proofs.YtafopojibpifoaaGreat.Sp

theorem ltB_irrefl (a : Bs) : ¬ a < a := List.lt_irrefl a
theorem ltB_trans {a b c : Bs} (h : a < b) (h2 : b < c) : a < c := List.lt_trans h h2
theorem cmp_neg : ∀ a b : Bs, Lib.compareBytes a b < 0 ↔ a < b
  | [], [] => by simp [Lib.compareBytes]
  | [], _ :: _ => by simp [Lib.compareBytes]
  | _ :: _, [] => by simp [Lib.compareBytes]
  | x :: a, y :: b => by
    unfold Lib.compareBytes
    rw [List.cons_lt_cons_iff]
    by_cases h : x < y
    · simp [h]
    · by_cases h2 : y < x
      · have : x ≠ y := fun e => by subst e; exact h h2
        simp [h, h2, this]
      · have : x = y := UInt8.le_antisymm (UInt8.not_lt.1 h2) (UInt8.not_lt.1 h)
        subst this
        simp [h, cmp_neg a b]
theorem cmp_zero : ∀ a b : Bs, Lib.compareBytes a b = 0 ↔ a = b
  | [], [] => by simp [Lib.compareBytes]
  | [], _ :: _ => by simp [Lib.compareBytes]
  | _ :: _, [] => by simp [Lib.compareBytes]
  | x :: a, y :: b => by
    unfold Lib.compareBytes
    by_cases h : x < y
    · have : x ≠ y := fun e => by subst e; exact UInt8.lt_irrefl _ h
      simp [h, this]
    · by_cases h2 : y < x
      · have : x ≠ y := fun e => by subst e; exact h h2
        simp [h, h2, this]
      · have : x = y := UInt8.le_antisymm (UInt8.not_lt.1 h2) (UInt8.not_lt.1 h)
        subst this
        simp [h, cmp_zero a b]
theorem cmp_ge (a b : Bs) : 0 ≤ Lib.compareBytes a b ↔ ¬ a < b := by rw [← cmp_neg]; omega

/-- An inner page's entry. -/
structure En where
  key : Bs
  child : Nat
def En.bytes (e : En) : Bs := be 4 e.child ++ e.key
def En.may (e : En) : Prop := e.key.length ≤ 48 ∧ 1 ≤ e.child ∧ e.child ≤ 1024
theorem En.bytes_length (e : En) : e.bytes.length = 4 + e.key.length := by simp [bytes]
theorem En.at_child (e : En) (h : e.may) : num ((e.bytes.drop 0).take 4) = e.child := by
  have h' := num_mid (x := []) (z := e.key) (k := 0) (n := 4) (m := 4) (v := e.child) rfl rfl (by have := h.2.2; omega)
  simpa [bytes] using h'
theorem En.at_key (e : En) : e.bytes.drop 4 = e.key := by
  unfold bytes
  have h := List.drop_left (l₁ := be 4 e.child) (l₂ := e.key)
  rwa [show (be 4 e.child).length = 4 by simp] at h

/-- Keys that rise. -/
def Rises (l : List Bs) : Prop := l.Pairwise (· < ·)
theorem Rises.lt {l : List Bs} (h : Rises l) {i j : Nat} (hij : i < j) (hj : j < l.length) : l[i]'(by omega) < l[j] := List.pairwise_iff_getElem.1 h i j (by omega) hj hij
theorem Rises.inj {l : List Bs} (h : Rises l) {i j : Nat} (hi : i < l.length) (hj : j < l.length) (e : l[i] = l[j]) : i = j := by
  rcases Nat.lt_trichotomy i j with h1 | h1 | h1
  · have := h.lt h1 hj
    rw [e] at this
    exact absurd this (ltB_irrefl _)
  · exact h1
  · have := h.lt h1 hi
    rw [e] at this
    exact absurd this (ltB_irrefl _)

/-- Where a key is, or would be. -/
def findK (ks : List Bs) (k : Bs) : Nat := ks.countP (fun x => decide (x < k))
def isK (ks : List Bs) (k : Bs) : Bool := decide (k ∈ ks)
theorem findK_le (ks : List Bs) (k : Bs) : findK ks k ≤ ks.length := List.countP_le_length
/-- A place that parts the keys below from the others is where the key is. -/
theorem findK_of {ks : List Bs} {k : Bs} : ∀ {l : List Bs} {i : Nat}, i ≤ l.length → (∀ t (h : t < l.length), t < i → l[t] < k) → (∀ t (h : t < l.length), i ≤ t → ¬ l[t] < k) → findK l k = i
  | [], i, hi, _, _ => by simp at hi; simp [findK, hi]
  | a :: r, 0, _, _, h2 => by
    unfold findK
    rw [List.countP_eq_zero]
    intro x hx
    obtain ⟨t, ht, rfl⟩ := List.getElem_of_mem hx
    simpa using h2 t ht (Nat.zero_le _)
  | a :: r, i + 1, hi, h1, h2 => by
    have ha : a < k := h1 0 (by simp) (by omega)
    have ih := findK_of (ks := ks) (k := k) (l := r) (i := i) (by simpa using hi) (fun t h ht => h1 (t + 1) (by simpa using h) (by omega)) (fun t h ht => h2 (t + 1) (by simpa using h) (by omega))
    unfold findK at ih ⊢
    rw [List.countP_cons_of_pos (by simpa using ha), ih]
theorem findK_lt {ks : List Bs} (h : Rises ks) {k : Bs} : ∀ t (ht : t < ks.length), t < findK ks k → ks[t] < k := by
  induction ks with
  | nil => intro t ht; simp at ht
  | cons a r ih =>
    intro t ht hlt
    have hr : Rises r := (List.pairwise_cons.1 h).2
    have ha := (List.pairwise_cons.1 h).1
    by_cases hak : a < k
    · cases t with
      | zero => exact hak
      | succ t =>
        have e : findK (a :: r) k = findK r k + 1 := by unfold findK; rw [List.countP_cons_of_pos (by simpa using hak)]
        exact ih hr t (by simpa using ht) (by omega)
    · have e : findK (a :: r) k = 0 := by
        unfold findK
        rw [List.countP_eq_zero]
        intro x hx
        rcases List.mem_cons.1 hx with rfl | hx
        · simpa using hak
        · have := ha x hx
          simpa using fun h => hak (ltB_trans this h)
      omega
theorem findK_ge {ks : List Bs} (h : Rises ks) {k : Bs} : ∀ t (ht : t < ks.length), findK ks k ≤ t → ¬ ks[t] < k := by
  induction ks with
  | nil => intro t ht; simp at ht
  | cons a r ih =>
    intro t ht hge hlt
    have hr : Rises r := (List.pairwise_cons.1 h).2
    have ha := (List.pairwise_cons.1 h).1
    have hak : a < k := by
      cases t with
      | zero => exact hlt
      | succ t => exact ltB_trans (ha _ (List.getElem_mem (by simpa using ht))) hlt
    have e : findK (a :: r) k = findK r k + 1 := by unfold findK; rw [List.countP_cons_of_pos (by simpa using hak)]
    cases t with
    | zero => omega
    | succ t => exact ih hr t (by simpa using ht) (by omega) hlt
/-- What the search says of the key's being there. -/
theorem isK_iff {ks : List Bs} (h : Rises ks) {k : Bs} : isK ks k = true ↔ ∃ ht : findK ks k < ks.length, ks[findK ks k] = k := by
  unfold isK
  rw [decide_eq_true_eq]
  constructor
  · intro hk
    obtain ⟨t, ht, rfl⟩ := List.getElem_of_mem hk
    have e : findK ks ks[t] = t := findK_of (ks := ks) (Nat.le_of_lt ht) (fun s hs hst => h.lt hst ht) (fun s hs hst hlt => by
      rcases Nat.eq_or_lt_of_le hst with e | h1
      · subst e; exact ltB_irrefl _ hlt
      · exact ltB_irrefl _ (ltB_trans hlt (h.lt h1 hs)))
    refine ⟨by rw [e]; exact ht, ?_⟩
    simp only [e]
  · rintro ⟨ht, e⟩
    rw [← e]
    exact List.getElem_mem ht
/-- Which entry leads to a key. -/
def childK (ks : List Bs) (k : Bs) : Nat := if isK ks k then findK ks k else findK ks k - 1
theorem childK_lt {ks : List Bs} (h : Rises ks) (hne : ks ≠ []) (k : Bs) : childK ks k < ks.length := by
  have h0 := List.length_pos_iff.2 hne
  have h1 := findK_le ks k
  unfold childK
  split
  · rename_i hk
    exact ((isK_iff h).1 hk).1
  · omega

/-- A leaf's page; an inner page. -/
def LeafPg (p : Pg) (rs : List Rw) : Prop := p.kind = 1 ∧ p.level = 0 ∧ p.rows = rs.map Rw.bytes ∧ ∀ r ∈ rs, r.may ∧ r.wf
def InnerPg (p : Pg) (es : List En) : Prop := p.kind = 2 ∧ p.level ≠ 0 ∧ es ≠ [] ∧ p.rows = es.map En.bytes ∧ ∀ e ∈ es, e.may
/-- A node whose keys are these. -/
def NodePg (p : Pg) (ks : List Bs) : Prop := Rises ks ∧ ((∃ rs, LeafPg p rs ∧ ks = rs.map (·.key)) ∨ ∃ es, InnerPg p es ∧ ks = es.map (·.key))
theorem NodePg.len {p : Pg} {ks : List Bs} (h : NodePg p ks) : p.rows.length = ks.length := by
  rcases h.2 with ⟨rs, hl, rfl⟩ | ⟨es, hl, rfl⟩
  · have e := hl.2.2.1
    rw [e]; simp
  · have e := hl.2.2.2.1
    rw [e]; simp
end Go.Proofs.YtafopojibpifoaaGreat.Sp

/- A tree of rows that rise: leaves of n rows each, one behind the other, below a root: plain laws. No program is named here. -/
namespace Go.Proofs.YtafopojibpifoaaGreat.Sp

def keysR (rs : List Rw) : List Bs := rs.map (·.key)
/-- How many leaves; a leaf's rows. -/
def lvN (n len : Nat) : Nat := (len + n - 1) / n
def lvRows (n : Nat) (rs : List Rw) (i : Nat) : List Rw := (rs.drop (i * n)).take n
theorem lvRows_length (n : Nat) (rs : List Rw) (i : Nat) : (lvRows n rs i).length = min n (rs.length - i * n) := by simp [lvRows]
theorem lvRows_at {n : Nat} {rs : List Rw} {i t : Nat} (h : t < (lvRows n rs i).length) (h' : i * n + t < rs.length) : (lvRows n rs i)[t] = rs[i * n + t] := by
  simp [lvRows, List.getElem_take, List.getElem_drop]
theorem lvRows_mem {n : Nat} {rs : List Rw} {i : Nat} {r : Rw} (h : r ∈ lvRows n rs i) : r ∈ rs := List.mem_of_mem_drop (List.mem_of_mem_take h)
theorem lvN_lt {n len i : Nat} (hn : 1 ≤ n) : i < lvN n len ↔ i * n < len := by
  unfold lvN
  rw [Nat.lt_div_iff_mul_lt (by omega)]
  have e : (i * n < len + n - 1 - (n - 1)) ↔ i * n < len := by omega
  rw [← e, Nat.mul_comm]
theorem lvRows_rise {n : Nat} {rs : List Rw} (h : Rises (keysR rs)) (i : Nat) : Rises (keysR (lvRows n rs i)) := by
  unfold Rises keysR lvRows at *
  rw [List.map_take, List.map_drop]
  exact (h.drop).take

/-- The key of a leaf's entry. -/
def sep (n : Nat) (rs : List Rw) (i : Nat) : Bs := if i = 0 then [] else (rs[i * n]?.map (·.key)).getD []
def seps (n : Nat) (rs : List Rw) : List Bs := (List.range (lvN n rs.length)).map (sep n rs)
theorem seps_length (n : Nat) (rs : List Rw) : (seps n rs).length = lvN n rs.length := by simp [seps]
theorem seps_at {n : Nat} {rs : List Rw} {i : Nat} (h : i < (seps n rs).length) : (seps n rs)[i] = sep n rs i := by simp [seps]
theorem sep_at {n : Nat} {rs : List Rw} {i : Nat} (hi : 1 ≤ i) (h : i * n < rs.length) : sep n rs i = rs[i * n].key := by
  unfold sep
  rw [if_neg (by omega), List.getElem?_eq_getElem h]; rfl
theorem keys_lt {rs : List Rw} (h : Rises (keysR rs)) {a b : Nat} (hab : a < b) (hb : b < rs.length) : (rs[a]'(by omega)).key < rs[b].key := by
  have := h.lt hab (by simpa [keysR] using hb)
  simpa [keysR] using this
theorem nil_lt {a : Bs} (h : 1 ≤ a.length) : ([] : Bs) < a := by
  cases a with
  | nil => simp at h
  | cons x a => exact List.Lex.nil
theorem not_lt_nil' (a : Bs) : ¬ a < [] := fun h => by cases h
theorem seps_rise {n : Nat} (hn : 1 ≤ n) {rs : List Rw} (h : Rises (keysR rs)) (hk : ∀ r ∈ rs, 1 ≤ r.key.length) : Rises (seps n rs) := by
  unfold Rises
  rw [List.pairwise_iff_getElem]
  intro i j hi hj hij
  rw [seps_at, seps_at]
  rw [seps_length] at hi hj
  have hj' := (lvN_lt (len := rs.length) hn).1 hj
  have hi' := (lvN_lt (len := rs.length) hn).1 hi
  rw [sep_at (by omega) hj']
  by_cases h0 : i = 0
  · subst h0
    exact nil_lt (hk _ (List.getElem_mem hj'))
  · rw [sep_at (by omega) hi']
    exact keys_lt h (Nat.mul_lt_mul_of_pos_right hij hn) hj'

theorem ltB_of {a b : Bs} (h1 : ¬ b < a) (h2 : a ≠ b) : a < b := by
  have h0 : Lib.compareBytes b a ≥ 0 := (cmp_ge b a).2 h1
  rcases List.le_iff_lt_or_eq.1 (List.not_lt.1 h1) with h | h
  · exact h
  · exact absurd h h2
theorem ltB_le {a b c : Bs} (h1 : a < b) (h2 : ¬ c < b) : a < c := by
  by_cases e : b = c
  · rw [← e]; exact h1
  · exact ltB_trans h1 (ltB_of h2 e)
theorem ltB_asymm {a b : Bs} (h1 : a < b) : ¬ b < a := fun h2 => ltB_irrefl _ (ltB_trans h1 h2)

/-- Which entry leads to a key: the last one that is not above it. -/
theorem child_spec {ks : List Bs} (h : Rises ks) (h0 : ks[0]? = some []) (k : Bs) : ∃ hc : childK ks k < ks.length, ¬ k < ks[childK ks k] ∧ ∀ j (hj : j < ks.length), childK ks k < j → k < ks[j] := by
  have hne : ks ≠ [] := fun e => by rw [e] at h0; simp at h0
  have hc := childK_lt h hne k
  refine ⟨hc, ?_⟩
  cases hk : isK ks k with
  | true =>
    have e : childK ks k = findK ks k := by unfold childK; rw [hk]; rfl
    obtain ⟨ht, hx⟩ := (isK_iff h).1 hk
    simp only [e]
    refine ⟨by rw [hx]; exact ltB_irrefl _, fun j hj hlt => ?_⟩
    have := h.lt hlt hj
    rw [hx] at this
    exact this
  | false =>
    have e : childK ks k = findK ks k - 1 := by unfold childK; rw [hk]; rfl
    have hn : k ∉ ks := by simpa [isK] using hk
    have hpos : 1 ≤ findK ks k := by
      by_cases hz : findK ks k = 0
      · exfalso
        have hl := List.length_pos_iff.2 hne
        have h1 := findK_ge h (k := k) 0 hl (by omega)
        have h2 : ks[0] = [] := by
          rw [List.getElem?_eq_getElem hl] at h0
          exact Option.some.inj h0
        rw [h2] at h1
        cases k with
        | nil => exact hn (by rw [← h2]; exact List.getElem_mem hl)
        | cons x k => exact h1 List.Lex.nil
      · omega
    have hle := findK_le ks k
    simp only [e]
    refine ⟨ltB_asymm (findK_lt h _ (by omega) (by omega)), fun j hj hlt => ?_⟩
    have h1 := findK_ge h (k := k) j hj (by omega)
    exact ltB_of h1 (fun e => hn (by rw [e]; exact List.getElem_mem hj))

theorem seps_zero {n : Nat} {rs : List Rw} (hm : 1 ≤ lvN n rs.length) : (seps n rs)[0]? = some [] := by
  rw [List.getElem?_eq_getElem (by rw [seps_length]; omega), seps_at]; rfl

/-- Where a key is in the leaf to which the root leads, and where among all. -/
theorem leaf_spec {n : Nat} (hn : 1 ≤ n) {rs : List Rw} (h : Rises (keysR rs)) (hk : ∀ r ∈ rs, 1 ≤ r.key.length) (h1 : 1 ≤ rs.length) (k : Bs) :
    ∃ c, c = childK (seps n rs) k ∧ c < lvN n rs.length ∧ findK (keysR rs) k = c * n + findK (keysR (lvRows n rs c)) k ∧ isK (keysR rs) k = isK (keysR (lvRows n rs c)) k := by
  have hm : 1 ≤ lvN n rs.length := (lvN_lt (i := 0) hn).2 (by omega)
  obtain ⟨hc, hlo, hhi⟩ := child_spec (seps_rise hn h hk) (seps_zero hm) k
  generalize hce : childK (seps n rs) k = c at hc hlo hhi ⊢
  rw [seps_length] at hc
  have hc' := (lvN_lt (len := rs.length) hn).1 hc
  have hbelow : ∀ t (ht : t < rs.length), t < c * n → rs[t].key < k := fun t ht hlt => by
    have hc1 : 1 ≤ c := by
      cases c with
      | zero => omega
      | succ c => omega
    have e : (seps n rs)[c]'(by rw [seps_length]; exact hc) = rs[c * n].key := by rw [seps_at, sep_at hc1 hc']
    rw [e] at hlo
    exact ltB_le (keys_lt h hlt hc') hlo
  have habove : ∀ t (ht : t < rs.length), (c + 1) * n ≤ t → k < rs[t].key := fun t ht hle => by
    have hl : c + 1 < lvN n rs.length := (lvN_lt hn).2 (by omega)
    have h2 := hhi (c + 1) (by rw [seps_length]; exact hl) (by omega)
    have e : (seps n rs)[c + 1]'(by rw [seps_length]; exact hl) = rs[(c + 1) * n].key := by rw [seps_at, sep_at (by omega) ((lvN_lt hn).1 hl)]
    rw [e] at h2
    by_cases e2 : (c + 1) * n = t
    · subst e2; exact h2
    · exact ltB_trans h2 (keys_lt h (by omega) ht)
  have hlr := lvRows_length n rs c
  have hrl := lvRows_rise (n := n) h c
  have hfl := findK_le (keysR (lvRows n rs c)) k
  have hkl : (keysR (lvRows n rs c)).length = min n (rs.length - c * n) := by simp [keysR, hlr]
  have hmul : (c + 1) * n = c * n + n := by rw [Nat.add_mul, Nat.one_mul]
  have hat : ∀ u (hu : u < (keysR (lvRows n rs c)).length) (hu' : c * n + u < rs.length), (keysR (lvRows n rs c))[u] = rs[c * n + u].key := fun u hu hu' => by
    simp only [keysR, List.getElem_map]
    rw [lvRows_at _ hu']
  refine ⟨c, rfl, hc, ?_, ?_⟩
  · have hle0 : c * n + findK (keysR (lvRows n rs c)) k ≤ (keysR rs).length := by
      have e0 : (keysR rs).length = rs.length := by simp [keysR]
      omega
    refine findK_of (ks := []) (l := keysR rs) (k := k) (i := c * n + findK (keysR (lvRows n rs c)) k) hle0 (fun t ht hlt => ?_) (fun t ht hge => ?_)
    · have ht' : t < rs.length := by simpa [keysR] using ht
      simp only [keysR, List.getElem_map]
      by_cases hb : t < c * n
      · exact hbelow t ht' hb
      · obtain ⟨u, rfl⟩ : ∃ u, t = c * n + u := ⟨t - c * n, by omega⟩
        have hu : u < (keysR (lvRows n rs c)).length := by rw [hkl]; omega
        rw [← hat u hu ht']
        exact findK_lt hrl u hu (by omega)
    · have ht' : t < rs.length := by simpa [keysR] using ht
      simp only [keysR, List.getElem_map]
      by_cases hb : (c + 1) * n ≤ t
      · exact ltB_asymm (habove t ht' hb)
      · obtain ⟨u, rfl⟩ : ∃ u, t = c * n + u := ⟨t - c * n, by omega⟩
        have hu : u < (keysR (lvRows n rs c)).length := by rw [hkl]; omega
        rw [← hat u hu ht']
        exact findK_ge hrl u hu (by omega)
  · unfold isK
    apply decide_eq_decide.2
    constructor
    · intro hm'
      obtain ⟨t, ht, e⟩ := List.getElem_of_mem hm'
      have ht' : t < rs.length := by simpa [keysR] using ht
      have e' : rs[t].key = k := by simpa [keysR] using e
      by_cases hb : t < c * n
      · exact absurd (hbelow t ht' hb) (by rw [e']; exact ltB_irrefl _)
      · by_cases hb2 : (c + 1) * n ≤ t
        · exact absurd (habove t ht' hb2) (by rw [e']; exact ltB_irrefl _)
        · obtain ⟨u, rfl⟩ : ∃ u, t = c * n + u := ⟨t - c * n, by omega⟩
          have hu : u < (keysR (lvRows n rs c)).length := by rw [hkl]; omega
          rw [← e', ← hat u hu ht']
          exact List.getElem_mem hu
    · intro hm'
      obtain ⟨r, hr, e⟩ := List.mem_map.1 hm'
      exact List.mem_map.2 ⟨r, lvRows_mem hr, e⟩
end Go.Proofs.YtafopojibpifoaaGreat.Sp

/- The pages of a tree of rows that rise: leaves of n rows each, one behind the other, below a root, or that alone: plain laws. No program is named here. -/
namespace Go.Proofs.YtafopojibpifoaaGreat.Sp

def zeroPg (q : Nat) : Pg := ⟨0, 0, q, 0, 0, []⟩
def lvPg (n : Nat) (rs : List Rw) (i : Nat) : Pg := ⟨1, 0, 3 + i, 0, if (i + 1) * n < rs.length then 4 + i else 0, (lvRows n rs i).map Rw.bytes⟩
def ens (n : Nat) (rs : List Rw) : List En := (List.range (lvN n rs.length)).map fun i => ⟨sep n rs i, 3 + i⟩
def rootPg (n : Nat) (rs : List Rw) : Pg := if lvN n rs.length < 2 then ⟨1, 0, 1, 0, 0, rs.map Rw.bytes⟩ else ⟨2, 1, 1, 0, 0, (ens n rs).map En.bytes⟩
def grown (n : Nat) (rs : List Rw) (q : Nat) : Pg :=
  if q = 1 then rootPg n rs else if 2 ≤ lvN n rs.length ∧ 3 ≤ q ∧ q < 3 + lvN n rs.length then lvPg n rs (q - 3) else zeroPg q

theorem ens_keys (n : Nat) (rs : List Rw) : (ens n rs).map (·.key) = seps n rs := by simp [ens, seps, Function.comp]
theorem ens_length (n : Nat) (rs : List Rw) : (ens n rs).length = lvN n rs.length := by simp [ens]
theorem ens_at {n : Nat} {rs : List Rw} {i : Nat} (h : i < (ens n rs).length) : (ens n rs)[i] = ⟨sep n rs i, 3 + i⟩ := by simp [ens]
theorem grown_leaf {n : Nat} {rs : List Rw} (h2 : 2 ≤ lvN n rs.length) {i : Nat} (hi : i < lvN n rs.length) : grown n rs (3 + i) = lvPg n rs i := by
  unfold grown
  rw [if_neg (by omega), if_pos ⟨h2, by omega, by omega⟩, Nat.add_sub_cancel_left]
theorem grown_root (n : Nat) (rs : List Rw) : grown n rs 1 = rootPg n rs := by unfold grown; rw [if_pos rfl]
theorem grown_id (n : Nat) (rs : List Rw) {q : Nat} (_h : 1 ≤ q) : (grown n rs q).id = q := by
  unfold grown
  split
  · rename_i e
    unfold rootPg
    split <;> exact e.symm
  · split
    · rename_i h
      show 3 + (q - 3) = q
      omega
    · rfl

/-- A leaf, an inner page of it. -/
theorem lv_leaf {n : Nat} {rs : List Rw} (hm : ∀ r ∈ rs, r.may ∧ r.wf) (i : Nat) : LeafPg (lvPg n rs i) (lvRows n rs i) := ⟨rfl, rfl, rfl, fun r hr => hm r (lvRows_mem hr)⟩
theorem sep_len {n : Nat} (_hn : 1 ≤ n) {rs : List Rw} (hm : ∀ r ∈ rs, r.may ∧ r.wf) (i : Nat) : (sep n rs i).length ≤ 48 := by
  unfold sep
  split
  · simp
  · cases h : rs[i * n]? with
    | none => simp
    | some r => exact (hm r (List.mem_of_getElem? h)).1.2.1
theorem root_inner {n : Nat} (hn : 1 ≤ n) {rs : List Rw} (h8 : rs.length ≤ 8) (hm : ∀ r ∈ rs, r.may ∧ r.wf) (h2 : 2 ≤ lvN n rs.length) : InnerPg (rootPg n rs) (ens n rs) := by
  unfold rootPg
  rw [if_neg (by omega)]
  refine ⟨rfl, by show (1 : Nat) ≠ 0; decide, fun e => ?_, rfl, fun e he => ?_⟩
  · have := ens_length n rs
    rw [e] at this
    simp at this
    omega
  · obtain ⟨i, hi, rfl⟩ := List.getElem_of_mem he
    rw [ens_at hi]
    rw [ens_length] at hi
    have := (lvN_lt (len := rs.length) hn).1 hi
    have h3 : i * 1 ≤ i * n := Nat.mul_le_mul_left _ hn
    exact ⟨sep_len hn hm i, by show 1 ≤ 3 + i; omega, by show 3 + i ≤ 1024; omega⟩
theorem root_leaf {n : Nat} {rs : List Rw} (hm : ∀ r ∈ rs, r.may ∧ r.wf) (h2 : lvN n rs.length < 2) : LeafPg (rootPg n rs) rs := by
  unfold rootPg
  rw [if_pos h2]
  exact ⟨rfl, rfl, rfl, hm⟩
end Go.Proofs.YtafopojibpifoaaGreat.Sp
