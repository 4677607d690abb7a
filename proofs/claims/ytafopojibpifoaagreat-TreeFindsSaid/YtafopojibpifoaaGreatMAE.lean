/- slices.Clone of rows, slices.DeleteFunc of a row of numbers, in the words of this proof. -/
import Derived.Test.YtafopojibpifoaaGreatMAD
import Derived.Conc.LoneSelectN

namespace Go.Proofs.YtafopojibpifoaaGreat
open Go.RowKit Go.Shelf Go.Lib Go.Sort

abbrev u32v (i : Nat) : Value := .int .u32 (i : Int)
theorem u32_one : OneCell u32v := fun _ => rfl
theorem Tryz.z26 (w : World) : (zeroValue 33).run Tryz.prog w = .ok (u32v 0) w := by kernel_rfl

theorem nat_beq (x p : Nat) : ((x : Int) == (p : Int)) = (x == p) := by
  rw [Bool.eq_iff_iff, beq_iff_eq, beq_iff_eq]; omega

theorem pins1_any (x p B : Nat) (W : World) (hc : W.cell? ⟨B, 0, none⟩ = some (u32v p)) :
    Calls Tryz.prog 99 #[u32v x, ptr B] W fun e w' => e = .returned (.bool (x == p)) ∧ w' = W := by
  have HB := Lib.hid (nat_beq x p)
  go_enter Tryz.func99, Tryz.ntmps99
  go_wp2_with fail
  go_ret
  exact ⟨by rw [← HB.out]; rfl, rfl⟩
theorem drops1_any (x p B : Nat) (W : World) (hc : W.cell? ⟨B, 0, none⟩ = some (u32v p)) :
    Calls Tryz.prog 153 #[u32v x, ptr B] W fun e w' => e = .returned (.bool (x == p)) ∧ w' = W := by
  have HB := Lib.hid (nat_beq x p)
  go_enter Tryz.func153, Tryz.ntmps153
  go_wp2_with fail
  go_ret
  exact ⟨by rw [← HB.out]; rfl, rfl⟩

/-- A function value that asks 'is it p?', p in the variable of block B. -/
def AsksFor (f : Nat) (p B : Nat) : Prop := (∀ x W, W.cell? ⟨B, 0, none⟩ = some (u32v p) → Calls Tryz.prog f #[u32v x, ptr B] W fun e w' => e = .returned (.bool (x == p)) ∧ w' = W) ∧
  ∀ args w, (callFunc f args).run Tryz.prog w = .ok (.enter f args) w
theorem asks_pins (p B : Nat) : AsksFor 99 p B := ⟨fun x W h => pins1_any x p B W h, enters_of Tryz.func99 (by kernel_rfl) rfl⟩
theorem asks_drops (p B : Nat) : AsksFor 153 p B := ⟨fun x W h => drops1_any x p B W h, enters_of Tryz.func153 (by kernel_rfl) rfl⟩

set_option maxRecDepth 100000 in
set_option maxHeartbeats 1000000 in
theorem delete_empty (a : Option Addr) (c : Nat) (fv : Value) (w : World) :
    Calls Tryz.prog 98 #[.slice a 0 c, fv] w fun e w' => e = .returned (.slice a 0 c) ∧ w' = w := by
  have HI := Lib.hid (Tryz.slices_IndexFunc_empty_f137 (α := Nat) a c fv w)
  go_enter Tryz.func98, Tryz.ntmps98
  go_wp2_with fail
  refine HI.out.mono ?_
  rintro e w1 ⟨rfl, hw⟩
  subst w1
  go_wp2_with fail
  go_ret
  exact ⟨rfl, rfl⟩

theorem putRow_heap (w : World) (q b : Nat) (D : Array Nat) (cur : Array Value) (e : TypeId) (h : w.heap[b]? = some (.cells cur e (0, 0))) :
    (putRow u32v (Sort.ahead w q) b 0 D).heap[b]? = some (.cells (Go.Sort.putCells u32v 0 D cur) e (0, 0)) := by
  simp [putRow, mapBlock, Sort.ahead, Array.getElem?_modify, h, onCells]
theorem putRow_grown (w : World) (q b : Nat) (D : Array Nat) : w.grownBy (putRow u32v (Sort.ahead w q) b 0 D) (some b) :=
  ⟨rfl, rfl, rfl, by simp [putRow, mapBlock, Sort.ahead], fun k _ hk => by
    have : ¬ b = k := fun e => hk (by rw [e])
    simp [putRow, mapBlock, Sort.ahead, Array.getElem?_modify, this]⟩

/-- A row of numbers from which one is struck. -/
theorem delete_row {w : World} {base f p B : Nat} {v : Value} {ids : List Nat} (hf : AsksFor f p B) (h : w.ownsRow base 33 1 v ids.length (ids.map u32v)) (hB : Blk w B 33 #[u32v p]) (hne : v.ownBlock ≠ some B) :
    Calls Tryz.prog 98 #[v, .func (.func f) #[] #[ptr B]] w fun e w' => ∃ v', e = .returned v' ∧
      w'.ownsRow base 33 1 v' (ids.filter (fun x => !(x == p))).length ((ids.filter (fun x => !(x == p))).map u32v) ∧ w.grownBy w' v.ownBlock ∧ (∀ k, v'.ownBlock = some k → v.ownBlock = some k) := by
  rcases h.2 with ⟨rfl, h0⟩ | ⟨b, cap, cur, rfl, hbb, hh, h1, h2, h3, h4⟩
  · have hids : ids = [] := List.eq_nil_of_length_eq_zero h0
    subst hids
    refine (delete_empty none 0 _ w).mono ?_
    rintro e w1 ⟨rfl, rfl⟩
    exact ⟨_, rfl, World.ownsRow_nil _ _ _ _, ⟨rfl, rfl, rfl, Nat.le_refl _, fun _ _ _ => rfl⟩, fun k hk => hk⟩
  · have hnb : b ≠ B := fun e => hne (by rw [e]; rfl)
    have hlen : ids.toArray.size = ids.length := by simp
    have hcm : cap ≤ 9223372036854775807 := by unfold maxLen at h2; omega
    have hH : Holds u32v w b 0 ids.toArray := by
      intro j hj
      have hj' : j < ids.length := by simpa using hj
      rw [Nat.zero_add]
      refine ⟨(h.cellAt j (by omega)).trans ?_, h.frozenAt j⟩
      simp [hj']
    have hp : PredAt Tryz.prog f #[ptr B] u32v (fun x => x == p) w := fun W x hb => by
      refine (hf.1 x W ((hb.cell (p := ⟨B, 0, none⟩) hB.lt).trans (hB.cell 0))).mono ?_
      rintro e w' ⟨rfl, rfl⟩
      exact ⟨rfl, 0, rfl⟩
    have hpo : PredOver Tryz.prog f #[ptr B] u32v (fun x => x == p) b 0 ids.toArray.size w := fun n os dk x hdk => by
      refine (hf.1 x _ ?_).mono ?_
      · have e1 := putRow_grown w n b dk
        have e2 : (sortWorld u32v w b 0 n dk os).heap[B]? = w.heap[B]? := by
          have hsz : B < (putRow u32v (Sort.ahead w n) b 0 dk).heap.size := Nat.lt_of_lt_of_le hB.lt e1.size
          exact (Sort.heap_grow_old (putRow u32v (Sort.ahead w n) b 0 dk) os hsz).trans (e1.block B hB.lt (fun e => hnb (by injection e with e; exact e.symm)))
        exact (hB.keep e2).cell 0
      · rintro e w' ⟨rfl, rfl⟩
        exact ⟨rfl, 0, rfl⟩
    have hcall := Tryz.slices_DeleteFunc_f98 u32v u32_one (fun x => x == p) f #[ptr B] hf.2 0 Tryz.z26 b 0 cap ids.toArray w hp hpo hH (by rw [hlen]; omega) (by rw [hlen]; exact h1)
    rw [hlen] at hcall
    refine hcall.mono ?_
    rintro e w' ⟨rfl, q, rfl⟩
    have hlf : (ids.filter (fun x => !(x == p))).length ≤ ids.length := List.length_filter_le _ _
    have hcsz : cur.size = cap := by rw [h3, Nat.mul_one]
    refine ⟨_, rfl, ⟨by simp, .inr ⟨b, cap, _, rfl, hbb, putRow_heap w q b _ cur _ hh, Nat.le_trans hlf h1, h2, ?_, ?_⟩⟩, putRow_grown w q b _, fun k hk => hk⟩
    · simp [Go.Sort.putCells, h3]
    · apply List.ext_getElem?
      intro k
      rw [Nat.mul_one, List.getElem?_take]
      split
      · rename_i hk
        have hkc : k < cur.size := by omega
        simp only [Go.Sort.putCells, Array.getElem?_toList, Array.getElem?_mapIdx]
        rw [Array.getElem?_eq_getElem hkc]
        have hk2 : k < ((ids.filter (fun x => !(x == p))) ++ List.replicate (ids.length - (ids.filter (fun x => !(x == p))).length) 0).length := by
          rw [List.length_append, List.length_replicate]; omega
        simp only [Option.map_some, Nat.zero_le, Nat.zero_add, true_and, Nat.sub_zero, List.size_toArray]
        rw [if_pos hk2, List.getElem?_map, List.getElem?_eq_getElem hk]
        simp only [Option.map_some]
        congr 2
        rw [getElem!_pos _ k (by simpa using hk2)]
        simp [List.getElem_append_left hk]
      · rename_i hk
        rw [List.getElem?_eq_none (by simpa using hk)]

/-- A page's rows, copied. -/
theorem clone_rows {G : Foot} {w : World} {A : Option Addr} {c : Nat} {rows : List Sp.Bs} (hR : RowsAt G w A rows) (hA : OkAddr A) (hl : rows.length ≤ 1000000) :
    Calls Tryz.prog 97 #[.slice A rows.length c] w fun e w' => ∃ A' c', e = .returned (.slice A' rows.length c') ∧ OkAddr A' ∧ RowsAt (fun b => w.heap.size ≤ b) w' A' rows ∧ Below w.heap.size w w' := by
  obtain ⟨i0, hi, hz0, hz1, hz2⟩ := info_parts str_info
  rcases hA with rfl | ⟨b, o, rfl⟩
  · have h0 : rows = [] := by
      cases rows with
      | nil => rfl
      | cons x l =>
        obtain ⟨b, o, e, _⟩ := hR.2 (by simp)
        cases e
    subst h0
    refine (Tryz.slices_Clone_nil_f97 0 c w).mono ?_
    rintro e w1 ⟨rfl, rfl⟩
    exact ⟨none, 0, rfl, .inl rfl, Reads.none_, Below.refl _ _⟩
  · have hz23 : ∀ w, (Go.sizeOf 9).run Tryz.prog w = .ok 1 w := fun w => by kernel_rfl
    rcases Nat.eq_zero_or_pos rows.length with h0 | hpos
    · have h0' : rows = [] := List.eq_nil_of_length_eq_zero h0
      subst h0'
      refine (Tryz.slices_Clone_f97 i0 _ 1 16 hi hz0 hz1 hz2 rfl (by decide) hz23 b o 0 c [] w rfl (by unfold maxLen; omega) (by omega) (fun j u hu => by simp at hu) (fun u hu => by simp at hu)).mono ?_
      rintro e w1 ⟨v, rfl, hO, hnn, hb⟩
      obtain ⟨A', c', rfl, hA', hR'⟩ := own_rows (rows := []) hO
      exact ⟨A', c', rfl, hA', hR', hb⟩
    · obtain ⟨b2, o2, e2, _, _, hc⟩ := hR.2 hpos
      injection e2 with e2
      injection e2 with e3 e4
      subst e3 e4
      refine (Tryz.slices_Clone_f97 i0 _ 1 16 hi hz0 hz1 hz2 rfl (by decide) hz23 b o rows.length c (rcs rows) w (by simp) (by unfold maxLen; omega) (by omega) hc (fun u hu => by
        obtain ⟨x, _, rfl⟩ := List.mem_map.1 hu; rfl)).mono ?_
      rintro e w1 ⟨v, rfl, hO, hnn, hb⟩
      obtain ⟨A', c', rfl, hA', hR'⟩ := own_rows hO
      exact ⟨A', c', rfl, hA', hR', hb⟩
end Go.Proofs.YtafopojibpifoaaGreat

/- The walks of package pool: New. -/
namespace Go.Proofs.YtafopojibpifoaaGreat
open Go.RowKit Go.Conc

theorem setChan_other (w : World) (c b cap : Nat) (buf : Array Value) (cl : Bool) (s r : Nat) (tm : Bool) (h : b ≠ c) : (w.setChan c cap buf cl s r tm).heap[b]? = w.heap[b]? := by
  simp [World.setChan, Array.getElem?_setIfInBounds_ne (Ne.symm h)]
theorem Blk.notChan {w : World} {b c : Nat} {t : TypeId} {cs : Array Value} {cap s r : Nat} {buf : Array Value} {cl tm : Bool} (h : Blk w b t cs) (hc : w.heap[c]? = some (.chan cap buf cl s r tm)) : b ≠ c := by
  rintro rfl
  unfold Blk at h
  rw [h] at hc
  cases hc
theorem UMap.notChan {P : Program} {k e : TypeId} {w : World} {b c m : Nat} {lk : Nat → Option Nat} {cap s r : Nat} {buf : Array Value} {cl tm : Bool} (h : UMap P k e w b m lk) (hc : w.heap[c]? = some (.chan cap buf cl s r tm)) : b ≠ c := by
  rintro rfl
  obtain ⟨D, ⟨es, clock, h1, _⟩, _⟩ := h
  rw [h1] at hc
  cases hc
theorem grown_setChan (w : World) (c cap : Nat) (buf : Array Value) (cl : Bool) (s r : Nat) (tm : Bool) : w.grownBy (w.setChan c cap buf cl s r tm) (some c) :=
  ⟨rfl, rfl, rfl, by simp [World.setChan], fun b _ hb => setChan_other w c b cap buf cl s r tm (fun e => hb (by rw [e]))⟩
theorem chan_buf (k : Nat) : ((List.range k).map fun (i : Nat) => Value.int .i64 (i : Int)).toArray.push (.int .i64 (k : Int)) = ((List.range (k + 1)).map fun (i : Nat) => Value.int .i64 (i : Int)).toArray := by
  rw [List.range_succ]; simp

theorem run_mkchan (n : Nat) (hn : n ≤ 64) (w : World) : (Instr.makeChan 137 (.int .i64 (n : Int))).run Tryz.prog w = .ok (.chan (some w.heap.size)) (w.alloc (.chan n #[] false 0 0 false)) := by
  obtain ⟨i, hi, _, _, hb⟩ := info_parts int_info2
  have := run_makeChan (P := Tryz.prog) (w := w) Tryz.underlying137 hi .i64 n (by omega) (by rw [hb]; omega)
  simpa using this

/-- The frames of a new pool. -/
def frZero (n : Nat) : Array Value := madeCells zeroFrA.cells (n * 9)
/-- What holds while the free frames are sent. -/
def NewAt (w wr : World) (gd gl at_ base n fb gp cb mb k : Nat) : Prop :=
  Below w.heap.size w wr ∧ Blk wr fb 145 (frZero n) ∧ Blk wr gp 140 (plCells gd gl at_ base fb n cb mb (.slice none 0 0)) ∧ UMap Tryz.prog 33 3 wr mb 0 (fun _ => none) ∧
    wr.heap[cb]? = some (.chan n ((List.range k).map fun (i : Nat) => Value.int .i64 (i : Int)).toArray false k 0 false)
def NewPost (w : World) (gd gl at_ base n : Nat) (e : Ending) (w' : World) : Prop :=
  ∃ gp F, e = .returned (.tuple #[ptr gp, .int .i64 0]) ∧ IsPl F w' gp gd gl at_ base ⟨n, [], List.range n⟩ ∧ Below w.heap.size w w' ∧ (∀ b, F b → w.heap.size ≤ b)

theorem newAt_is {w wr : World} {gd gl at_ base n fb gp cb mb : Nat} (h1 : 1 ≤ n) (h64 : n ≤ 64) (h : NewAt w wr gd gl at_ base n fb gp cb mb n) (l1 : w.heap.size ≤ fb) (l2 : w.heap.size ≤ cb) (l3 : w.heap.size ≤ mb) (l4 : w.heap.size ≤ gp) :
    NewPost w gd gl at_ base n (.returned (.tuple #[ptr gp, .int .i64 0])) wr := by
  obtain ⟨hb, hF, hP, hM, hC⟩ := h
  refine ⟨gp, fun b => b = gp ∨ b = fb ∨ b = cb ∨ b = mb, rfl, ⟨noFoot, fb, cb, mb, .slice none 0 0, n, 0, frZero n, ?_⟩, hb, ?_⟩
  · refine ⟨⟨h1, h64, by simp, by simp, by simp, by simp⟩, hP, ⟨hF, by simp [frZero, madeCells], by simp, fun i hi j hj => ?_⟩, hC, hM, World.ownsRow_nil _ _ _ _, ⟨.inl rfl, .inr (.inl rfl), .inr (.inr (.inl rfl)), .inr (.inr (.inr rfl)), fun b h => by simp [Value.ownBlock] at h⟩, fun b h => h.elim, ?_⟩
    · exact made_at n j i (List.mem_range.1 hi) hj
    · rintro b (rfl | rfl | rfl | rfl)
      · exact hP.lt
      · exact hF.lt
      · exact (Array.getElem?_eq_some_iff.1 hC).1
      · exact hM.lt
  · rintro b (rfl | rfl | rfl | rfl) <;> assumption

set_option maxRecDepth 100000 in
set_option maxHeartbeats 4000000 in
theorem pool_new (gd gl at_ base n : Nat) (h1 : 1 ≤ n) (h64 : n ≤ 64) (w : World) :
    Calls Tryz.prog 88 #[ptr gd, ptr gl, .int .i64 at_, .int .i64 base, .int .i64 n] w (NewPost w gd gl at_ base n) := by
  have d1 : decide ((n : Int) < 1) = false := by rw [decide_eq_false_iff_not]; omega
  have d2 : decide ((64 : Int) < n) = false := by rw [decide_eq_false_iff_not]; omega
  refine calls_of_wpN Tryz.func88 rfl ?_
  simp only [Tryz.ntmps88, List.size_toArray, List.length_cons, List.length_nil, Nat.reduceAdd, Nat.reduceSub, Array.replicate_succ, Array.replicate_zero, List.push_toArray, List.append_toArray, List.nil_append, List.cons_append]
  refine wpN_seq_k ?_
  intro K hK
  go_wp2_with fail
  refine wpN_seq_k ?_
  intro K hK
  go_wp2_with fail
  refine wpN_seq_k ?_
  intro K hK
  have HK : ∀ (fb cb mb : Nat) (W : World), (Blk W fb 145 (frZero n) ∧ W.heap[cb]? = some (.chan n #[] false 0 0 false) ∧ UMap Tryz.prog 33 3 W mb 0 (fun _ => none) ∧ Below w.heap.size w W ∧ w.heap.size ≤ fb ∧ w.heap.size ≤ cb ∧ w.heap.size ≤ mb) →
      K { tmps := #[ptr gd, ptr gl, .int .i64 at_, .int .i64 base, .int .i64 n, undef, undef, undef, undef, undef, .pointer none, .int .i64 0, ptr W.heap.size, undef, .bool false, ptr gd, .bool false, ptr gl, .bool false, .bool false, .int .i64 n, .bool false, .int .i64 n, .bool false, ptr gd, ptr gl, .int .i64 at_, .int .i64 base, .int .i64 n, .slice (some ⟨fb, 0, none⟩) n n, .int .i64 n, .chan (some cb), .map (some mb), .agg (plCells gd gl at_ base fb n cb mb (.slice none 0 0)), ptr W.heap.size, undef, undef, undef, undef, undef, undef, undef, undef, undef, undef, undef], defers := [] } (W.alloc (.cells (plCells gd gl at_ base fb n cb mb (.slice none 0 0)) 140)) := by
    rintro fb cb mb W ⟨hF, hC, hM, hb, l1, l2, l3⟩
    refine hK _ _ ?_
    have hbw := hb.alloc hb.size (.cells (plCells gd gl at_ base fb n cb mb (.slice none 0 0)) 140)
    have hP := Lib.hid (Blk.new W 140 (plCells gd gl at_ base fb n cb mb (.slice none 0 0)))
    have hF' := Lib.hid (hF.alloc (.cells (plCells gd gl at_ base fb n cb mb (.slice none 0 0)) 140))
    have hM' := Lib.hid (hM.alloc (.cells (plCells gd gl at_ base fb n cb mb (.slice none 0 0)) 140))
    have hcl : cb < W.heap.size := (Array.getElem?_eq_some_iff.1 hC).1
    have hC' := Lib.hid ((Below.heap_alloc W (.cells (plCells gd gl at_ base fb n cb mb (.slice none 0 0)) 140) cb hcl).trans hC)
    have hgs : w.heap.size ≤ W.heap.size := hb.size
    obtain ⟨gp, hgp⟩ : ∃ gp, gp = W.heap.size := ⟨_, rfl⟩
    obtain ⟨W1, hW1⟩ : ∃ W1, W1 = W.alloc (.cells (plCells gd gl at_ base fb n cb mb (.slice none 0 0)) 140) := ⟨_, rfl⟩
    rw [← hW1] at hbw hP hF' hM' hC' ⊢
    rw [← hgp] at hP hgs hcl ⊢
    clear hW1 hgp hF hC hM hb hK K
    refine wpN_seq ?_
    refine wpN_seq_k ?_
    intro K hK
    go_wp2_with fail
    refine wpN_block ?_
    refine wpN_loop (fun a wr => ∃ (k : Nat) (u13 u37 u38 u39 u40 u41 u42 u43 u44 : Value), k ≤ n ∧ a = { tmps := #[ptr gd, ptr gl, .int .i64 at_, .int .i64 base, .int .i64 n, undef, undef, undef, undef, undef, .pointer none, .int .i64 0, ptr gp, u13, .bool false, ptr gd, .bool false, ptr gl, .bool false, .bool false, .int .i64 n, .bool false, .int .i64 n, .bool false, ptr gd, ptr gl, .int .i64 at_, .int .i64 base, .int .i64 n, .slice (some ⟨fb, 0, none⟩) n n, .int .i64 n, .chan (some cb), .map (some mb), .agg (plCells gd gl at_ base fb n cb mb (.slice none 0 0)), ptr gp, .int .i64 n, .int .i64 (k : Nat), u37, u38, u39, u40, u41, u42, u43, u44, undef], defers := [] } ∧ NewAt w wr gd gl at_ base n fb gp cb mb k) (fun a _ => n - (intOf (a.tmps.getD 36 undef)).toNat) ?_ ?_
    · exact ⟨0, undef, undef, undef, undef, undef, undef, undef, undef, undef, Nat.zero_le _, rfl, hbw, hF'.out, hP.out, hM'.out, hC'.out⟩
    rintro a wr ⟨k, u13, u37, u38, u39, u40, u41, u42, u43, u44, hk, rfl, hbr, hF, hP2, hM, hC⟩
    have HF := Lib.hid hF
    have HP := Lib.hid hP2
    have HM := Lib.hid hM
    have HC := Lib.hid hC
    have c5 := hP2.cell 5
    simp only [plCells, List.getElem?_toArray, List.getElem?_cons_succ, List.getElem?_cons_zero] at c5
    have hcl2 : cb < wr.heap.size := (Array.getElem?_eq_some_iff.1 hC).1
    clear hF hP2 hM hC hF' hP hM' hC' hbw
    by_cases hlt : k < n
    · refine wpN_seq_k ?_
      intro K hK
      go_wp2_with fail
      refine wpN_seq_k ?_
      intro K hK
      go_wp2_with fail
      refine wpN_seq ?_
      refine wpN_block ?_
      refine wpN_seq_k ?_
      intro K hK
      go_wp2_with fail
      refine wpN_region ?_
      change wpT _ _ _ [0, 1, 2, 3, 4, 5] _ _
      refine T_value 0 39 (v := ptr gp) (w' := wr) rfl rfl (by rfl) (by go_simp) ?_
      simp only [List.setIfInBounds_toArray, List.set_cons_zero, List.set_cons_succ]
      refine T_value 1 40 (v := ptr gp) (w' := wr) rfl rfl (by rfl) (by go_simp) ?_
      simp only [List.setIfInBounds_toArray, List.set_cons_zero, List.set_cons_succ]
      refine T_value 2 41 (v := .pointer (some ⟨gp, 5, none⟩)) (w' := wr) rfl rfl (by rfl) (by go_simp) ?_
      simp only [List.setIfInBounds_toArray, List.set_cons_zero, List.set_cons_succ]
      refine T_value 3 42 (v := .chan (some cb)) (w' := wr) rfl rfl (by rfl) (by go_simp) ?_
      simp only [List.setIfInBounds_toArray, List.set_cons_zero, List.set_cons_succ]
      refine T_value 4 43 (v := .int .i64 k) (w' := wr) rfl rfl (by rfl) (by go_simp) ?_
      simp only [List.setIfInBounds_toArray, List.set_cons_zero, List.set_cons_succ]
      refine T_send 5 (c := cb) (cap := n) (buf := ((List.range k).map fun (i : Nat) => Value.int .i64 (i : Int)).toArray) (s := k) (r := 0) (tm := false) (v := .int .i64 k) (z := .tuple #[]) (w' := wr) rfl rfl (by rfl) (by simp [execOp, scase, Act.eval]) HC.out (by simpa using hlt) ?_
      refine T_done ?_
      simp only [Exit.inBlock, Exit.then]
      refine wpN_of_wp ?_
      have hg := grown_setChan wr cb n ((((List.range k).map fun (i : Nat) => Value.int .i64 (i : Int)).toArray).push (.int .i64 (k : Int))) false (k + 1) 0 false
      have hF2 := Lib.hid (HF.out.grown hg (fun e => HF.out.notChan HC.out (by injection e)))
      have hP2 := Lib.hid (HP.out.grown hg (fun e => HP.out.notChan HC.out (by injection e)))
      have hM2 := Lib.hid (HM.out.kept hg (fun e => HM.out.notChan HC.out (by injection e)))
      have hC2 := heap_setChan wr cb n ((((List.range k).map fun (i : Nat) => Value.int .i64 (i : Int)).toArray).push (.int .i64 (k : Int))) false (k + 1) 0 false hcl2
      have hb2 : Below w.heap.size w (wr.setChan cb n ((((List.range k).map fun (i : Nat) => Value.int .i64 (i : Int)).toArray).push (.int .i64 (k : Int))) false (k + 1) 0 false) := hbr.grown hg hbr.size (fun r e => by cases e; exact l2)
      clear hg c5
      generalize wr.setChan cb n ((((List.range k).map fun (i : Nat) => Value.int .i64 (i : Int)).toArray).push (.int .i64 (k : Int))) false (k + 1) 0 false = w5 at *
      rw [chan_buf] at hC2
      have HC2 := Lib.hid hC2
      clear hC2
      go_wp2_with fail
      exact ⟨⟨k + 1, hlt, ⟨_, _, _, _, _, _, _, _, _, rfl⟩, hb2, hF2.out, hP2.out, hM2.out, HC2.out⟩, by simp [intOf]; omega⟩
    · obtain rfl : k = n := by omega
      refine wpN_seq_k ?_
      intro K hK
      go_wp2_with fail
      refine wpN_seq_k ?_
      intro K hK
      go_wp2_with fail
      have hN := Lib.hid (newAt_is h1 h64 ⟨hbr, HF.out, HP.out, HM.out, HC.out⟩ l1 l2 l3 hgs)
      refine wpN_of_wp ?_
      clear hK c5
      go_wp2_with fail
      go_ret2
      exact hN.out
  clear hK
  have HKH := Lib.hid HK
  clear HK
  obtain ⟨i0, hi, hz0, hz1, hz2⟩ := info_parts fr_info
  have hms : ∀ W, (Instr.makeSlice 136 (.int .i64 (n : Int)) (.int .i64 (n : Int))).run Tryz.prog W = .ok (.slice (some ⟨W.heap.size, 0, none⟩) n n) (W.alloc (.cells (frZero n) 145)) := fun W => by
    have := run_make_rowN (P := Tryz.prog) 136 145 i0 zeroFrA Tryz.underlying136 hi hz0 .i64 .i64 n n (Nat.le_refl _) (by rw [hz2]; omega) (by omega) W
    rw [this, hz1]; rfl
  have hmc := run_mkchan n h64
  have hmm := @run_makeMap Tryz.prog
  clear hi hz0 hz1 hz2
  refine R_begin (fun _ => True) (fun _ => false) (by kernel_rfl) ?_
  refine R_take 0 24 (v := ?_) rfl rfl (by rfl) (by kernel_rfl) (fun _ _ _ h => h) trivial ?_ ?_
  rotate_left
  · intro w _; go_simp; (try with_reducible rfl)
  simp only [List.setIfInBounds_toArray, List.set_cons_zero, List.set_cons_succ]
  refine R_take 1 25 (v := ?_) rfl rfl (by rfl) (by kernel_rfl) (fun _ _ _ h => h) trivial ?_ ?_
  rotate_left
  · intro w _; go_simp; (try with_reducible rfl)
  simp only [List.setIfInBounds_toArray, List.set_cons_zero, List.set_cons_succ]
  refine R_take 2 26 (v := ?_) rfl rfl (by rfl) (by kernel_rfl) (fun _ _ _ h => h) trivial ?_ ?_
  rotate_left
  · intro w _; go_simp; (try with_reducible rfl)
  simp only [List.setIfInBounds_toArray, List.set_cons_zero, List.set_cons_succ]
  refine R_take 3 27 (v := ?_) rfl rfl (by rfl) (by kernel_rfl) (fun _ _ _ h => h) trivial ?_ ?_
  rotate_left
  · intro w _; go_simp; (try with_reducible rfl)
  simp only [List.setIfInBounds_toArray, List.set_cons_zero, List.set_cons_succ]
  refine R_take 4 28 (v := ?_) rfl rfl (by rfl) (by kernel_rfl) (fun _ _ _ h => h) trivial ?_ ?_
  rotate_left
  · intro w _; go_simp; (try with_reducible rfl)
  simp only [List.setIfInBounds_toArray, List.set_cons_zero, List.set_cons_succ]
  refine R_take 6 30 (v := ?_) rfl rfl (by rfl) (by kernel_rfl) (fun _ _ _ h => h) trivial ?_ ?_
  rotate_left
  · intro w _; go_simp; (try with_reducible rfl)
  simp only [List.setIfInBounds_toArray, List.set_cons_zero, List.set_cons_succ]
  refine R_all (rs := [5, 7, 8]) (by kernel_rfl) (by simp) (fun i hi => ?_)
  simp only [List.mem_cons, List.not_mem_nil, or_false] at hi
  rcases hi with rfl | rfl | rfl
  · refine op_run 29 (v := .slice (some ⟨w.drew.heap.size, 0, none⟩) n n) (w' := w.drew.alloc (.cells (frZero n) 145)) rfl rfl (by rfl) (by go_simp) ⟨fun _ => trivial, ?_⟩
    simp only [List.setIfInBounds_toArray, List.set_cons_zero, List.set_cons_succ]
    have hb : Below w.heap.size w (w.drew.alloc (.cells (frZero n) 145)) := ((Below.refl _ w).drew).alloc (Nat.le_refl _) _
    have h5 : Blk (w.drew.alloc (.cells (frZero n) 145)) w.drew.heap.size 145 (frZero n) := Blk.new _ _ _
    have l5 : w.heap.size ≤ w.drew.heap.size := Nat.le_refl _
    have hs := hb.size
    obtain ⟨f5, hf5⟩ : ∃ f, f = w.drew.heap.size := ⟨_, rfl⟩
    obtain ⟨W1, hW1⟩ : ∃ W, W = w.drew.alloc (.cells (frZero n) 145) := ⟨_, rfl⟩
    rw [← hW1] at hb hs h5 ⊢
    rw [← hf5] at h5 l5
    clear hW1
    rw [← hf5]
    clear hf5
    refine R_all (rs := [7, 8]) (by kernel_rfl) (by simp) (fun i hi => ?_)
    simp only [List.mem_cons, List.not_mem_nil, or_false] at hi
    rcases hi with rfl | rfl
    · refine op_run 31 (v := .chan (some W1.heap.size)) (w' := W1.alloc (.chan n #[] false 0 0 false)) rfl rfl (by rfl) (by go_simp) ⟨fun _ => trivial, ?_⟩
      simp only [List.setIfInBounds_toArray, List.set_cons_zero, List.set_cons_succ]
      have hb := hb.alloc hb.size (.chan n #[] false 0 0 false)
      have h5 := h5.alloc (.chan n #[] false 0 0 false)
      have h7 : (W1.alloc (.chan n #[] false 0 0 false)).heap[W1.heap.size]? = some (.chan n #[] false 0 0 false) := heap_alloc_new _ _
      have l7 : w.heap.size ≤ W1.heap.size := hs
      have hs := hb.size
      obtain ⟨f7, hf7⟩ : ∃ f, f = W1.heap.size := ⟨_, rfl⟩
      obtain ⟨W2, hW2⟩ : ∃ W, W = W1.alloc (.chan n #[] false 0 0 false) := ⟨_, rfl⟩
      rw [← hW2] at hb hs h5 h7 ⊢
      rw [← hf7] at h7 l7
      clear hW2
      rw [← hf7]
      clear hf7
      refine R_all (rs := [8]) (by kernel_rfl) (by simp) (fun i hi => ?_)
      obtain rfl := List.mem_singleton.1 hi
      · refine op_run 32 (v := .map (some W2.heap.size)) (w' := W2.alloc (.map #[] 0)) rfl rfl (by rfl) (by go_simp) ⟨fun _ => trivial, ?_⟩
        simp only [List.setIfInBounds_toArray, List.set_cons_zero, List.set_cons_succ]
        have hb := hb.alloc hb.size (.map #[] 0)
        have h5 := h5.alloc (.map #[] 0)
        have h7 := (Below.heap_alloc W2 (.map #[] 0) f7 (by have := Array.getElem?_eq_some_iff.1 h7; exact this.1)).trans h7
        have h8 : UMap Tryz.prog 33 3 (W2.alloc (.map #[] 0)) W2.heap.size 0 (fun _ => none) := UMap.made _
        have l8 : w.heap.size ≤ W2.heap.size := hs
        have hs := hb.size
        obtain ⟨f8, hf8⟩ : ∃ f, f = W2.heap.size := ⟨_, rfl⟩
        obtain ⟨W3, hW3⟩ : ∃ W, W = W2.alloc (.map #[] 0) := ⟨_, rfl⟩
        rw [← hW3] at hb hs h5 h7 h8 ⊢
        rw [← hf8] at h8 l8
        clear hW3
        rw [← hf8]
        clear hf8
        refine R_run 9 33 (v := .agg (plCells gd gl at_ base f5 n f7 f8 (.slice none 0 0))) (w' := W3) rfl rfl (by rfl) (by kernel_rfl) (by go_simp) (fun _ => trivial) ?_
        simp only [List.setIfInBounds_toArray, List.set_cons_zero, List.set_cons_succ]
        refine R_run 10 34 (v := ptr W3.heap.size) (w' := W3.alloc (.cells (plCells gd gl at_ base f5 n f7 f8 (.slice none 0 0)) 140)) rfl rfl (by rfl) (by kernel_rfl) (by go_simp) (fun _ => trivial) ?_
        simp only [List.setIfInBounds_toArray, List.set_cons_zero, List.set_cons_succ]
        refine R_run 11 12 (v := ptr W3.heap.size) (w' := W3.alloc (.cells (plCells gd gl at_ base f5 n f7 f8 (.slice none 0 0)) 140)) rfl rfl (by rfl) (by kernel_rfl) (by go_simp) (fun _ => trivial) ?_
        simp only [List.setIfInBounds_toArray, List.set_cons_zero, List.set_cons_succ]
        refine R_done (by kernel_rfl) ?_ _
        exact HKH.out f5 f7 f8 W3 ⟨h5, h7, h8, hb, l5, l7, l8⟩
    · refine op_run 32 (v := .map (some W1.heap.size)) (w' := W1.alloc (.map #[] 0)) rfl rfl (by rfl) (by go_simp) ⟨fun _ => trivial, ?_⟩
      simp only [List.setIfInBounds_toArray, List.set_cons_zero, List.set_cons_succ]
      have hb := hb.alloc hb.size (.map #[] 0)
      have h5 := h5.alloc (.map #[] 0)
      have h8 : UMap Tryz.prog 33 3 (W1.alloc (.map #[] 0)) W1.heap.size 0 (fun _ => none) := UMap.made _
      have l8 : w.heap.size ≤ W1.heap.size := hs
      have hs := hb.size
      obtain ⟨f8, hf8⟩ : ∃ f, f = W1.heap.size := ⟨_, rfl⟩
      obtain ⟨W2, hW2⟩ : ∃ W, W = W1.alloc (.map #[] 0) := ⟨_, rfl⟩
      rw [← hW2] at hb hs h5 h8 ⊢
      rw [← hf8] at h8 l8
      clear hW2
      rw [← hf8]
      clear hf8
      refine R_all (rs := [7]) (by kernel_rfl) (by simp) (fun i hi => ?_)
      obtain rfl := List.mem_singleton.1 hi
      · refine op_run 31 (v := .chan (some W2.heap.size)) (w' := W2.alloc (.chan n #[] false 0 0 false)) rfl rfl (by rfl) (by go_simp) ⟨fun _ => trivial, ?_⟩
        simp only [List.setIfInBounds_toArray, List.set_cons_zero, List.set_cons_succ]
        have hb := hb.alloc hb.size (.chan n #[] false 0 0 false)
        have h5 := h5.alloc (.chan n #[] false 0 0 false)
        have h8 := h8.alloc (.chan n #[] false 0 0 false)
        have h7 : (W2.alloc (.chan n #[] false 0 0 false)).heap[W2.heap.size]? = some (.chan n #[] false 0 0 false) := heap_alloc_new _ _
        have l7 : w.heap.size ≤ W2.heap.size := hs
        have hs := hb.size
        obtain ⟨f7, hf7⟩ : ∃ f, f = W2.heap.size := ⟨_, rfl⟩
        obtain ⟨W3, hW3⟩ : ∃ W, W = W2.alloc (.chan n #[] false 0 0 false) := ⟨_, rfl⟩
        rw [← hW3] at hb hs h5 h8 h7 ⊢
        rw [← hf7] at h7 l7
        clear hW3
        rw [← hf7]
        clear hf7
        refine R_run 9 33 (v := .agg (plCells gd gl at_ base f5 n f7 f8 (.slice none 0 0))) (w' := W3) rfl rfl (by rfl) (by kernel_rfl) (by go_simp) (fun _ => trivial) ?_
        simp only [List.setIfInBounds_toArray, List.set_cons_zero, List.set_cons_succ]
        refine R_run 10 34 (v := ptr W3.heap.size) (w' := W3.alloc (.cells (plCells gd gl at_ base f5 n f7 f8 (.slice none 0 0)) 140)) rfl rfl (by rfl) (by kernel_rfl) (by go_simp) (fun _ => trivial) ?_
        simp only [List.setIfInBounds_toArray, List.set_cons_zero, List.set_cons_succ]
        refine R_run 11 12 (v := ptr W3.heap.size) (w' := W3.alloc (.cells (plCells gd gl at_ base f5 n f7 f8 (.slice none 0 0)) 140)) rfl rfl (by rfl) (by kernel_rfl) (by go_simp) (fun _ => trivial) ?_
        simp only [List.setIfInBounds_toArray, List.set_cons_zero, List.set_cons_succ]
        refine R_done (by kernel_rfl) ?_ _
        exact HKH.out f5 f7 f8 W3 ⟨h5, h7, h8, hb, l5, l7, l8⟩
  · refine op_run 31 (v := .chan (some w.drew.heap.size)) (w' := w.drew.alloc (.chan n #[] false 0 0 false)) rfl rfl (by rfl) (by go_simp) ⟨fun _ => trivial, ?_⟩
    simp only [List.setIfInBounds_toArray, List.set_cons_zero, List.set_cons_succ]
    have hb : Below w.heap.size w (w.drew.alloc (.chan n #[] false 0 0 false)) := ((Below.refl _ w).drew).alloc (Nat.le_refl _) _
    have h7 : (w.drew.alloc (.chan n #[] false 0 0 false)).heap[w.drew.heap.size]? = some (.chan n #[] false 0 0 false) := heap_alloc_new _ _
    have l7 : w.heap.size ≤ w.drew.heap.size := Nat.le_refl _
    have hs := hb.size
    obtain ⟨f7, hf7⟩ : ∃ f, f = w.drew.heap.size := ⟨_, rfl⟩
    obtain ⟨W1, hW1⟩ : ∃ W, W = w.drew.alloc (.chan n #[] false 0 0 false) := ⟨_, rfl⟩
    rw [← hW1] at hb hs h7 ⊢
    rw [← hf7] at h7 l7
    clear hW1
    rw [← hf7]
    clear hf7
    refine R_all (rs := [5, 8]) (by kernel_rfl) (by simp) (fun i hi => ?_)
    simp only [List.mem_cons, List.not_mem_nil, or_false] at hi
    rcases hi with rfl | rfl
    · refine op_run 29 (v := .slice (some ⟨W1.heap.size, 0, none⟩) n n) (w' := W1.alloc (.cells (frZero n) 145)) rfl rfl (by rfl) (by go_simp) ⟨fun _ => trivial, ?_⟩
      simp only [List.setIfInBounds_toArray, List.set_cons_zero, List.set_cons_succ]
      have hb := hb.alloc hb.size (.cells (frZero n) 145)
      have h7 := (Below.heap_alloc W1 (.cells (frZero n) 145) f7 (by have := Array.getElem?_eq_some_iff.1 h7; exact this.1)).trans h7
      have h5 : Blk (W1.alloc (.cells (frZero n) 145)) W1.heap.size 145 (frZero n) := Blk.new _ _ _
      have l5 : w.heap.size ≤ W1.heap.size := hs
      have hs := hb.size
      obtain ⟨f5, hf5⟩ : ∃ f, f = W1.heap.size := ⟨_, rfl⟩
      obtain ⟨W2, hW2⟩ : ∃ W, W = W1.alloc (.cells (frZero n) 145) := ⟨_, rfl⟩
      rw [← hW2] at hb hs h7 h5 ⊢
      rw [← hf5] at h5 l5
      clear hW2
      rw [← hf5]
      clear hf5
      refine R_all (rs := [8]) (by kernel_rfl) (by simp) (fun i hi => ?_)
      obtain rfl := List.mem_singleton.1 hi
      · refine op_run 32 (v := .map (some W2.heap.size)) (w' := W2.alloc (.map #[] 0)) rfl rfl (by rfl) (by go_simp) ⟨fun _ => trivial, ?_⟩
        simp only [List.setIfInBounds_toArray, List.set_cons_zero, List.set_cons_succ]
        have hb := hb.alloc hb.size (.map #[] 0)
        have h7 := (Below.heap_alloc W2 (.map #[] 0) f7 (by have := Array.getElem?_eq_some_iff.1 h7; exact this.1)).trans h7
        have h5 := h5.alloc (.map #[] 0)
        have h8 : UMap Tryz.prog 33 3 (W2.alloc (.map #[] 0)) W2.heap.size 0 (fun _ => none) := UMap.made _
        have l8 : w.heap.size ≤ W2.heap.size := hs
        have hs := hb.size
        obtain ⟨f8, hf8⟩ : ∃ f, f = W2.heap.size := ⟨_, rfl⟩
        obtain ⟨W3, hW3⟩ : ∃ W, W = W2.alloc (.map #[] 0) := ⟨_, rfl⟩
        rw [← hW3] at hb hs h7 h5 h8 ⊢
        rw [← hf8] at h8 l8
        clear hW3
        rw [← hf8]
        clear hf8
        refine R_run 9 33 (v := .agg (plCells gd gl at_ base f5 n f7 f8 (.slice none 0 0))) (w' := W3) rfl rfl (by rfl) (by kernel_rfl) (by go_simp) (fun _ => trivial) ?_
        simp only [List.setIfInBounds_toArray, List.set_cons_zero, List.set_cons_succ]
        refine R_run 10 34 (v := ptr W3.heap.size) (w' := W3.alloc (.cells (plCells gd gl at_ base f5 n f7 f8 (.slice none 0 0)) 140)) rfl rfl (by rfl) (by kernel_rfl) (by go_simp) (fun _ => trivial) ?_
        simp only [List.setIfInBounds_toArray, List.set_cons_zero, List.set_cons_succ]
        refine R_run 11 12 (v := ptr W3.heap.size) (w' := W3.alloc (.cells (plCells gd gl at_ base f5 n f7 f8 (.slice none 0 0)) 140)) rfl rfl (by rfl) (by kernel_rfl) (by go_simp) (fun _ => trivial) ?_
        simp only [List.setIfInBounds_toArray, List.set_cons_zero, List.set_cons_succ]
        refine R_done (by kernel_rfl) ?_ _
        exact HKH.out f5 f7 f8 W3 ⟨h5, h7, h8, hb, l5, l7, l8⟩
    · refine op_run 32 (v := .map (some W1.heap.size)) (w' := W1.alloc (.map #[] 0)) rfl rfl (by rfl) (by go_simp) ⟨fun _ => trivial, ?_⟩
      simp only [List.setIfInBounds_toArray, List.set_cons_zero, List.set_cons_succ]
      have hb := hb.alloc hb.size (.map #[] 0)
      have h7 := (Below.heap_alloc W1 (.map #[] 0) f7 (by have := Array.getElem?_eq_some_iff.1 h7; exact this.1)).trans h7
      have h8 : UMap Tryz.prog 33 3 (W1.alloc (.map #[] 0)) W1.heap.size 0 (fun _ => none) := UMap.made _
      have l8 : w.heap.size ≤ W1.heap.size := hs
      have hs := hb.size
      obtain ⟨f8, hf8⟩ : ∃ f, f = W1.heap.size := ⟨_, rfl⟩
      obtain ⟨W2, hW2⟩ : ∃ W, W = W1.alloc (.map #[] 0) := ⟨_, rfl⟩
      rw [← hW2] at hb hs h7 h8 ⊢
      rw [← hf8] at h8 l8
      clear hW2
      rw [← hf8]
      clear hf8
      refine R_all (rs := [5]) (by kernel_rfl) (by simp) (fun i hi => ?_)
      obtain rfl := List.mem_singleton.1 hi
      · refine op_run 29 (v := .slice (some ⟨W2.heap.size, 0, none⟩) n n) (w' := W2.alloc (.cells (frZero n) 145)) rfl rfl (by rfl) (by go_simp) ⟨fun _ => trivial, ?_⟩
        simp only [List.setIfInBounds_toArray, List.set_cons_zero, List.set_cons_succ]
        have hb := hb.alloc hb.size (.cells (frZero n) 145)
        have h7 := (Below.heap_alloc W2 (.cells (frZero n) 145) f7 (by have := Array.getElem?_eq_some_iff.1 h7; exact this.1)).trans h7
        have h8 := h8.alloc (.cells (frZero n) 145)
        have h5 : Blk (W2.alloc (.cells (frZero n) 145)) W2.heap.size 145 (frZero n) := Blk.new _ _ _
        have l5 : w.heap.size ≤ W2.heap.size := hs
        have hs := hb.size
        obtain ⟨f5, hf5⟩ : ∃ f, f = W2.heap.size := ⟨_, rfl⟩
        obtain ⟨W3, hW3⟩ : ∃ W, W = W2.alloc (.cells (frZero n) 145) := ⟨_, rfl⟩
        rw [← hW3] at hb hs h7 h8 h5 ⊢
        rw [← hf5] at h5 l5
        clear hW3
        rw [← hf5]
        clear hf5
        refine R_run 9 33 (v := .agg (plCells gd gl at_ base f5 n f7 f8 (.slice none 0 0))) (w' := W3) rfl rfl (by rfl) (by kernel_rfl) (by go_simp) (fun _ => trivial) ?_
        simp only [List.setIfInBounds_toArray, List.set_cons_zero, List.set_cons_succ]
        refine R_run 10 34 (v := ptr W3.heap.size) (w' := W3.alloc (.cells (plCells gd gl at_ base f5 n f7 f8 (.slice none 0 0)) 140)) rfl rfl (by rfl) (by kernel_rfl) (by go_simp) (fun _ => trivial) ?_
        simp only [List.setIfInBounds_toArray, List.set_cons_zero, List.set_cons_succ]
        refine R_run 11 12 (v := ptr W3.heap.size) (w' := W3.alloc (.cells (plCells gd gl at_ base f5 n f7 f8 (.slice none 0 0)) 140)) rfl rfl (by rfl) (by kernel_rfl) (by go_simp) (fun _ => trivial) ?_
        simp only [List.setIfInBounds_toArray, List.set_cons_zero, List.set_cons_succ]
        refine R_done (by kernel_rfl) ?_ _
        exact HKH.out f5 f7 f8 W3 ⟨h5, h7, h8, hb, l5, l7, l8⟩
  · refine op_run 32 (v := .map (some w.drew.heap.size)) (w' := w.drew.alloc (.map #[] 0)) rfl rfl (by rfl) (by go_simp) ⟨fun _ => trivial, ?_⟩
    simp only [List.setIfInBounds_toArray, List.set_cons_zero, List.set_cons_succ]
    have hb : Below w.heap.size w (w.drew.alloc (.map #[] 0)) := ((Below.refl _ w).drew).alloc (Nat.le_refl _) _
    have h8 : UMap Tryz.prog 33 3 (w.drew.alloc (.map #[] 0)) w.drew.heap.size 0 (fun _ => none) := UMap.made _
    have l8 : w.heap.size ≤ w.drew.heap.size := Nat.le_refl _
    have hs := hb.size
    obtain ⟨f8, hf8⟩ : ∃ f, f = w.drew.heap.size := ⟨_, rfl⟩
    obtain ⟨W1, hW1⟩ : ∃ W, W = w.drew.alloc (.map #[] 0) := ⟨_, rfl⟩
    rw [← hW1] at hb hs h8 ⊢
    rw [← hf8] at h8 l8
    clear hW1
    rw [← hf8]
    clear hf8
    refine R_all (rs := [5, 7]) (by kernel_rfl) (by simp) (fun i hi => ?_)
    simp only [List.mem_cons, List.not_mem_nil, or_false] at hi
    rcases hi with rfl | rfl
    · refine op_run 29 (v := .slice (some ⟨W1.heap.size, 0, none⟩) n n) (w' := W1.alloc (.cells (frZero n) 145)) rfl rfl (by rfl) (by go_simp) ⟨fun _ => trivial, ?_⟩
      simp only [List.setIfInBounds_toArray, List.set_cons_zero, List.set_cons_succ]
      have hb := hb.alloc hb.size (.cells (frZero n) 145)
      have h8 := h8.alloc (.cells (frZero n) 145)
      have h5 : Blk (W1.alloc (.cells (frZero n) 145)) W1.heap.size 145 (frZero n) := Blk.new _ _ _
      have l5 : w.heap.size ≤ W1.heap.size := hs
      have hs := hb.size
      obtain ⟨f5, hf5⟩ : ∃ f, f = W1.heap.size := ⟨_, rfl⟩
      obtain ⟨W2, hW2⟩ : ∃ W, W = W1.alloc (.cells (frZero n) 145) := ⟨_, rfl⟩
      rw [← hW2] at hb hs h8 h5 ⊢
      rw [← hf5] at h5 l5
      clear hW2
      rw [← hf5]
      clear hf5
      refine R_all (rs := [7]) (by kernel_rfl) (by simp) (fun i hi => ?_)
      obtain rfl := List.mem_singleton.1 hi
      · refine op_run 31 (v := .chan (some W2.heap.size)) (w' := W2.alloc (.chan n #[] false 0 0 false)) rfl rfl (by rfl) (by go_simp) ⟨fun _ => trivial, ?_⟩
        simp only [List.setIfInBounds_toArray, List.set_cons_zero, List.set_cons_succ]
        have hb := hb.alloc hb.size (.chan n #[] false 0 0 false)
        have h8 := h8.alloc (.chan n #[] false 0 0 false)
        have h5 := h5.alloc (.chan n #[] false 0 0 false)
        have h7 : (W2.alloc (.chan n #[] false 0 0 false)).heap[W2.heap.size]? = some (.chan n #[] false 0 0 false) := heap_alloc_new _ _
        have l7 : w.heap.size ≤ W2.heap.size := hs
        have hs := hb.size
        obtain ⟨f7, hf7⟩ : ∃ f, f = W2.heap.size := ⟨_, rfl⟩
        obtain ⟨W3, hW3⟩ : ∃ W, W = W2.alloc (.chan n #[] false 0 0 false) := ⟨_, rfl⟩
        rw [← hW3] at hb hs h8 h5 h7 ⊢
        rw [← hf7] at h7 l7
        clear hW3
        rw [← hf7]
        clear hf7
        refine R_run 9 33 (v := .agg (plCells gd gl at_ base f5 n f7 f8 (.slice none 0 0))) (w' := W3) rfl rfl (by rfl) (by kernel_rfl) (by go_simp) (fun _ => trivial) ?_
        simp only [List.setIfInBounds_toArray, List.set_cons_zero, List.set_cons_succ]
        refine R_run 10 34 (v := ptr W3.heap.size) (w' := W3.alloc (.cells (plCells gd gl at_ base f5 n f7 f8 (.slice none 0 0)) 140)) rfl rfl (by rfl) (by kernel_rfl) (by go_simp) (fun _ => trivial) ?_
        simp only [List.setIfInBounds_toArray, List.set_cons_zero, List.set_cons_succ]
        refine R_run 11 12 (v := ptr W3.heap.size) (w' := W3.alloc (.cells (plCells gd gl at_ base f5 n f7 f8 (.slice none 0 0)) 140)) rfl rfl (by rfl) (by kernel_rfl) (by go_simp) (fun _ => trivial) ?_
        simp only [List.setIfInBounds_toArray, List.set_cons_zero, List.set_cons_succ]
        refine R_done (by kernel_rfl) ?_ _
        exact HKH.out f5 f7 f8 W3 ⟨h5, h7, h8, hb, l5, l7, l8⟩
    · refine op_run 31 (v := .chan (some W1.heap.size)) (w' := W1.alloc (.chan n #[] false 0 0 false)) rfl rfl (by rfl) (by go_simp) ⟨fun _ => trivial, ?_⟩
      simp only [List.setIfInBounds_toArray, List.set_cons_zero, List.set_cons_succ]
      have hb := hb.alloc hb.size (.chan n #[] false 0 0 false)
      have h8 := h8.alloc (.chan n #[] false 0 0 false)
      have h7 : (W1.alloc (.chan n #[] false 0 0 false)).heap[W1.heap.size]? = some (.chan n #[] false 0 0 false) := heap_alloc_new _ _
      have l7 : w.heap.size ≤ W1.heap.size := hs
      have hs := hb.size
      obtain ⟨f7, hf7⟩ : ∃ f, f = W1.heap.size := ⟨_, rfl⟩
      obtain ⟨W2, hW2⟩ : ∃ W, W = W1.alloc (.chan n #[] false 0 0 false) := ⟨_, rfl⟩
      rw [← hW2] at hb hs h8 h7 ⊢
      rw [← hf7] at h7 l7
      clear hW2
      rw [← hf7]
      clear hf7
      refine R_all (rs := [5]) (by kernel_rfl) (by simp) (fun i hi => ?_)
      obtain rfl := List.mem_singleton.1 hi
      · refine op_run 29 (v := .slice (some ⟨W2.heap.size, 0, none⟩) n n) (w' := W2.alloc (.cells (frZero n) 145)) rfl rfl (by rfl) (by go_simp) ⟨fun _ => trivial, ?_⟩
        simp only [List.setIfInBounds_toArray, List.set_cons_zero, List.set_cons_succ]
        have hb := hb.alloc hb.size (.cells (frZero n) 145)
        have h8 := h8.alloc (.cells (frZero n) 145)
        have h7 := (Below.heap_alloc W2 (.cells (frZero n) 145) f7 (by have := Array.getElem?_eq_some_iff.1 h7; exact this.1)).trans h7
        have h5 : Blk (W2.alloc (.cells (frZero n) 145)) W2.heap.size 145 (frZero n) := Blk.new _ _ _
        have l5 : w.heap.size ≤ W2.heap.size := hs
        have hs := hb.size
        obtain ⟨f5, hf5⟩ : ∃ f, f = W2.heap.size := ⟨_, rfl⟩
        obtain ⟨W3, hW3⟩ : ∃ W, W = W2.alloc (.cells (frZero n) 145) := ⟨_, rfl⟩
        rw [← hW3] at hb hs h8 h7 h5 ⊢
        rw [← hf5] at h5 l5
        clear hW3
        rw [← hf5]
        clear hf5
        refine R_run 9 33 (v := .agg (plCells gd gl at_ base f5 n f7 f8 (.slice none 0 0))) (w' := W3) rfl rfl (by rfl) (by kernel_rfl) (by go_simp) (fun _ => trivial) ?_
        simp only [List.setIfInBounds_toArray, List.set_cons_zero, List.set_cons_succ]
        refine R_run 10 34 (v := ptr W3.heap.size) (w' := W3.alloc (.cells (plCells gd gl at_ base f5 n f7 f8 (.slice none 0 0)) 140)) rfl rfl (by rfl) (by kernel_rfl) (by go_simp) (fun _ => trivial) ?_
        simp only [List.setIfInBounds_toArray, List.set_cons_zero, List.set_cons_succ]
        refine R_run 11 12 (v := ptr W3.heap.size) (w' := W3.alloc (.cells (plCells gd gl at_ base f5 n f7 f8 (.slice none 0 0)) 140)) rfl rfl (by rfl) (by kernel_rfl) (by go_simp) (fun _ => trivial) ?_
        simp only [List.setIfInBounds_toArray, List.set_cons_zero, List.set_cons_succ]
        refine R_done (by kernel_rfl) ?_ _
        exact HKH.out f5 f7 f8 W3 ⟨h5, h7, h8, hb, l5, l7, l8⟩
end Go.Proofs.YtafopojibpifoaaGreat

/- Plain laws on a pool's items. -/
namespace Go.Proofs.YtafopojibpifoaaGreat.Sp

theorem Pl.wf.nodup {p : Pl} (h : p.wf) : (p.free ++ p.items.map (·.idx)).Nodup := h.idx.nodup_iff.2 List.nodup_range
theorem Pl.wf.nodup_idx {p : Pl} (h : p.wf) : (p.items.map (·.idx)).Nodup := (List.nodup_append.1 h.nodup).2.1
theorem Pl.wf.nodup_free {p : Pl} (h : p.wf) : p.free.Nodup := (List.nodup_append.1 h.nodup).1
theorem Pl.wf.free_ne {p : Pl} (h : p.wf) {i : Nat} (hi : i ∈ p.free) {it : It} (hit : it ∈ p.items) : i ≠ it.idx := (List.nodup_append.1 h.nodup).2.2 i hi it.idx (List.mem_map.2 ⟨it, hit, rfl⟩)
theorem Pl.wf.idx_lt {p : Pl} (h : p.wf) {it : It} (hit : it ∈ p.items) : it.idx < p.n :=
  List.mem_range.1 (h.idx.mem_iff.1 (List.mem_append.2 (.inr (List.mem_map.2 ⟨it, hit, rfl⟩))))
theorem Pl.wf.free_lt {p : Pl} (h : p.wf) {i : Nat} (hi : i ∈ p.free) : i < p.n := List.mem_range.1 (h.idx.mem_iff.1 (List.mem_append.2 (.inl hi)))
theorem Pl.wf.len {p : Pl} (h : p.wf) : p.free.length + p.items.length = p.n := by
  have := h.idx.length_eq
  simpa using this

theorem nodup_map_eq {α β : Type} {f : α → β} : ∀ {l : List α}, (l.map f).Nodup → ∀ {a b : α}, a ∈ l → b ∈ l → f a = f b → a = b
  | [], _, _, _, ha, _, _ => absurd ha (by simp)
  | x :: l, h, a, b, ha, hb, e => by
    rw [List.map_cons, List.nodup_cons] at h
    rcases List.mem_cons.1 ha with e1 | h1 <;> rcases List.mem_cons.1 hb with e2 | h2
    · rw [e1, e2]
    · exact absurd (List.mem_map.2 ⟨b, h2, by rw [← e1]; exact e.symm⟩) h.1
    · exact absurd (List.mem_map.2 ⟨a, h1, by rw [← e2]; exact e⟩) h.1
    · exact nodup_map_eq h.2 h1 h2 e

theorem Pl.find_mem {p : Pl} {id : Nat} {it : It} (h : p.find id = some it) : it ∈ p.items ∧ it.page.id = id := by
  unfold Pl.find at h
  exact ⟨List.mem_of_find?_eq_some h, by simpa using List.find?_some h⟩
theorem Pl.find_of {p : Pl} (h : p.wf) {it : It} (hit : it ∈ p.items) : p.find it.page.id = some it := by
  unfold Pl.find
  cases hf : p.items.find? (fun x => x.page.id == it.page.id) with
  | none =>
    have := List.find?_eq_none.1 hf it hit
    simp at this
  | some y =>
    have h1 := List.mem_of_find?_eq_some hf
    have h2 : y.page.id = it.page.id := by simpa using List.find?_some hf
    rw [nodup_map_eq h.ids h1 hit h2]
theorem Pl.find_none {p : Pl} {id : Nat} : p.find id = none ↔ ∀ it ∈ p.items, it.page.id ≠ id := by
  unfold Pl.find
  rw [List.find?_eq_none]
  simp

/-- an item turned. -/
def Pl.upd (p : Pl) (id : Nat) (f : It → It) : Pl := { p with items := p.items.map fun x => if x.page.id = id then f x else x }

structure Tame (f : It → It) : Prop where
  id : ∀ x, (f x).page.id = x.page.id
  idx : ∀ x, (f x).idx = x.idx

theorem Pl.upd_ids {p : Pl} {id : Nat} {f : It → It} (hf : Tame f) : (p.upd id f).items.map (·.page.id) = p.items.map (·.page.id) := by
  unfold Pl.upd
  rw [List.map_map]
  apply List.map_congr_left
  intro x _
  simp only [Function.comp]
  split
  · exact hf.id x
  · rfl
theorem Pl.upd_idx {p : Pl} {id : Nat} {f : It → It} (hf : Tame f) : (p.upd id f).items.map (·.idx) = p.items.map (·.idx) := by
  unfold Pl.upd
  rw [List.map_map]
  apply List.map_congr_left
  intro x _
  simp only [Function.comp]
  split
  · exact hf.idx x
  · rfl
theorem Pl.upd_mem {p : Pl} {id : Nat} {f : It → It} {y : It} (h : y ∈ (p.upd id f).items) : ∃ x ∈ p.items, y = if x.page.id = id then f x else x := by
  obtain ⟨x, hx, rfl⟩ := List.mem_map.1 h
  exact ⟨x, hx, rfl⟩
theorem Pl.upd_wf {p : Pl} (h : p.wf) {id : Nat} {f : It → It} (hf : Tame f) (hpg : ∀ x ∈ p.items, x.page.id = id → (f x).page.wf ∧ (f x).page.may ∧ (f x).pins ≤ 1000000000 ∧ (f x).from_ < 18446744073709551616) : (p.upd id f).wf := by
  refine ⟨h.n1, h.n64, ?_, ?_, fun y hy => ?_, fun y hy => ?_⟩
  · rw [Pl.upd_idx hf]; exact h.idx
  · rw [Pl.upd_ids hf]; exact h.ids
  · obtain ⟨x, hx, rfl⟩ := Pl.upd_mem hy
    split
    · rename_i e; exact ⟨(hpg x hx e).1, (hpg x hx e).2.1⟩
    · exact h.pg x hx
  · obtain ⟨x, hx, rfl⟩ := Pl.upd_mem hy
    split
    · rename_i e; exact (hpg x hx e).2.2
    · exact h.small x hx
theorem Pl.upd_lk {p : Pl} {id : Nat} {f : It → It} (hf : Tame f) : ∀ q, (p.upd id f).lk q = p.lk q := by
  intro q
  unfold Pl.lk Pl.find Pl.upd
  rw [List.find?_map]
  have e : ((fun it : It => it.page.id == q) ∘ fun x => if x.page.id = id then f x else x) = fun it : It => it.page.id == q := by
    funext x
    simp only [Function.comp]
    split
    · rw [hf.id]
    · rfl
  rw [e]
  cases p.items.find? (fun it => it.page.id == q) with
  | none => rfl
  | some y =>
    simp only [Option.map_some]
    split
    · rw [hf.idx]
    · rfl
end Go.Proofs.YtafopojibpifoaaGreat.Sp

/- The walks of package pool: made, Free, Pins, Unpin. -/
namespace Go.Proofs.YtafopojibpifoaaGreat
open Go.RowKit Go.Conc

theorem Tryz.zi (w : World) : (zeroValue 3).run Tryz.prog w = .ok (.int .i64 0) w := by kernel_rfl

section
variable {F R : Foot} {w : World} {gp gd gl at_ base fb cb mb s r : Nat} {v : Value} {cs : Array Value} {fl ids : List Nat} {p : Sp.Pl}

/-- What the pool's struct holds. -/
theorem IsPlAt.cells (h : IsPlAt F R w gp gd gl at_ base fb cb mb v s r cs fl ids p) : w.cell? ⟨gp, 0, none⟩ = some (ptr gd) ∧ w.cell? ⟨gp, 1, none⟩ = some (ptr gl) ∧ w.cell? ⟨gp, 2, none⟩ = some (.int .i64 at_) ∧ w.cell? ⟨gp, 3, none⟩ = some (.int .i64 base) ∧
    w.cell? ⟨gp, 4, none⟩ = some (.slice (some ⟨fb, 0, none⟩) p.n p.n) ∧ w.cell? ⟨gp, 5, none⟩ = some (.chan (some cb)) ∧ w.cell? ⟨gp, 6, none⟩ = some (.map (some mb)) ∧ w.cell? ⟨gp, 7, none⟩ = some v :=
  ⟨h.blk.cell 0, h.blk.cell 1, h.blk.cell 2, h.blk.cell 3, h.blk.cell 4, h.blk.cell 5, h.blk.cell 6, h.blk.cell 7⟩
theorem IsPlAt.item (h : IsPlAt F R w gp gd gl at_ base fb cb mb v s r cs fl ids p) {it : Sp.It} (hit : it ∈ p.items) {j : Nat} (hj : j < 9) : ∃ A c, w.cell? ⟨fb, it.idx * 9 + j, none⟩ = (frCells it A c)[j]? := by
  obtain ⟨A, c, _, _, hc⟩ := h.fr.item it hit
  exact ⟨A, c, (h.fr.blk.cell _).trans (hc j hj)⟩
theorem IsPlAt.pins (h : IsPlAt F R w gp gd gl at_ base fb cb mb v s r cs fl ids p) {it : Sp.It} (hit : it ∈ p.items) : w.cell? ⟨fb, it.idx * 9 + 6, none⟩ = some (.int .i64 it.pins) := by
  obtain ⟨A, c, e⟩ := h.item hit (j := 6) (by omega)
  exact e
theorem IsPlAt.dirty (h : IsPlAt F R w gp gd gl at_ base fb cb mb v s r cs fl ids p) {it : Sp.It} (hit : it ∈ p.items) : w.cell? ⟨fb, it.idx * 9 + 7, none⟩ = some (.bool it.dirty) := by
  obtain ⟨A, c, e⟩ := h.item hit (j := 7) (by omega)
  exact e
theorem IsPlAt.look (h : IsPlAt F R w gp gd gl at_ base fb cb mb v s r cs fl ids p) {id : Nat} (hid : id < 4294967296) {it : Sp.It} (hf : p.find id = some it) :
    (Instr.lookup 138 (.map (some mb)) (u32v id) false).run Tryz.prog w = .ok (.int .i64 it.idx) w :=
  h.map.look Tryz.underlying33 Tryz.underlying3 Tryz.underlying138 (Tryz.zi w) hid (by simp [Sp.Pl.lk, hf])
theorem IsPlAt.look_in (h : IsPlAt F R w gp gd gl at_ base fb cb mb v s r cs fl ids p) {id : Nat} (hid : id < 4294967296) {it : Sp.It} (hf : p.find id = some it) :
    (Instr.lookup 138 (.map (some mb)) (u32v id) true).run Tryz.prog w = .ok (.tuple #[.int .i64 it.idx, .bool true]) w := by
  have := h.map.look_ok Tryz.underlying33 Tryz.underlying3 Tryz.underlying138 (Tryz.zi w) hid
  simpa [Sp.Pl.lk, hf] using this
theorem IsPlAt.look_out (h : IsPlAt F R w gp gd gl at_ base fb cb mb v s r cs fl ids p) {id : Nat} (hid : id < 4294967296) (hf : p.find id = none) :
    (Instr.lookup 138 (.map (some mb)) (u32v id) true).run Tryz.prog w = .ok (.tuple #[.int .i64 0, .bool false]) w := by
  have := h.map.look_ok Tryz.underlying33 Tryz.underlying3 Tryz.underlying138 (Tryz.zi w) hid
  simpa [Sp.Pl.lk, hf] using this
end

set_option maxRecDepth 100000 in
set_option maxHeartbeats 1000000 in
theorem pool_made {w : World} {gp mb : Nat} (h6 : w.cell? ⟨gp, 6, none⟩ = some (.map (some mb))) :
    Calls Tryz.prog 61 #[ptr gp] w fun e w' => e = .returned (.bool true) ∧ w' = w := by
  have hne := fun w => run_neq_map_nil (P := Tryz.prog) w 138 _ _ (some mb) Tryz.underlying138
  go_enter Tryz.func61, Tryz.ntmps61
  go_wp2_with fail
  go_ret
  exact ⟨rfl, rfl⟩
theorem pool_made_nil (w : World) : Calls Tryz.prog 61 #[.pointer none] w fun e w' => e = .returned (.bool false) ∧ w' = w := by
  go_enter Tryz.func61, Tryz.ntmps61
  go_wp2_with fail
  go_ret
  exact ⟨rfl, rfl⟩

end Go.Proofs.YtafopojibpifoaaGreat

/- How a pool in memory turns. No walk. -/
namespace Go.Proofs.YtafopojibpifoaaGreat
open Go.RowKit Go.Conc

theorem u32_info : (Tryz.prog.info? 33).map (fun i => (i.zero, i.size, i.bytes)) = some (some (.int .u32 0), 1, 4) := by kernel_rfl

namespace Sp
/-- a page brought into frame i, which was free. -/
def Pl.bring (p : Pl) (x : Pg) (i : Nat) (rest : List Nat) : Pl := ⟨p.n, p.items ++ [⟨x, 0, false, 0, i⟩], rest⟩
/-- a page dropped. -/
def Pl.drop (p : Pl) (id i : Nat) : Pl := ⟨p.n, p.items.filter (fun x => x.page.id != id), p.free ++ [i]⟩

theorem Pl.wf.bring {p : Pl} (h : p.wf) {x : Pg} {i : Nat} {rest : List Nat} (hfree : p.free = i :: rest) (hn : p.find x.id = none) (hx : x.wf ∧ x.may) : (p.bring x i rest).wf := by
  have hn' := Pl.find_none.1 hn
  refine ⟨h.n1, h.n64, ?_, ?_, fun y hy => ?_, fun y hy => ?_⟩
  · have := h.idx
    rw [hfree] at this
    refine List.Perm.trans ?_ this
    simp only [Pl.bring, List.map_append, List.map_cons, List.map_nil]
    rw [← List.append_assoc]
    exact List.perm_append_singleton i (rest ++ p.items.map (·.idx))
  · simp only [Pl.bring, List.map_append, List.map_cons, List.map_nil]
    refine List.nodup_append.2 ⟨h.ids, by simp, fun a ha b hb => ?_⟩
    obtain ⟨y, hy, rfl⟩ := List.mem_map.1 ha
    rw [List.mem_singleton.1 hb]
    exact hn' y hy
  · rcases List.mem_append.1 hy with hy | hy
    · exact h.pg y hy
    · rw [List.mem_singleton.1 hy]; exact hx
  · rcases List.mem_append.1 hy with hy | hy
    · exact h.small y hy
    · rw [List.mem_singleton.1 hy]; exact ⟨by simp, by simp⟩
theorem Pl.lk_bring {p : Pl} (h : p.wf) {x : Pg} {i : Nat} {rest : List Nat} (hfree : p.free = i :: rest) (hn : p.find x.id = none) (hx : x.wf ∧ x.may) : ∀ q, (p.bring x i rest).lk q = lkPut p.lk x.id i q := by
  have hw := h.bring hfree hn hx
  intro q
  unfold lkPut Pl.lk
  split
  · rename_i e
    subst e
    rw [Pl.find_of (p := p.bring x i rest) hw (it := ⟨x, 0, false, 0, i⟩) (by simp [Pl.bring])]
    rfl
  · rename_i e
    have : (p.bring x i rest).find q = p.find q := by
      unfold Pl.find Pl.bring
      rw [List.find?_append]
      cases p.items.find? (fun it => it.page.id == q) with
      | some y => rfl
      | none => simp [Ne.symm e]
    rw [this]

theorem Pl.drop_perm {p : Pl} (h : p.wf) {it : It} (hit : it ∈ p.items) : p.items.Perm (it :: p.items.filter (fun x => x.page.id != it.page.id)) := by
  have hsub : ∀ l : List It, (l.map (·.page.id)).Nodup → it ∈ l → l.Perm (it :: l.filter (fun x => x.page.id != it.page.id)) := by
    intro l
    induction l with
    | nil => intro _ h; cases h
    | cons y l ih =>
      intro hn hm
      rw [List.map_cons, List.nodup_cons] at hn
      rcases List.mem_cons.1 hm with e | hm
      · subst e
        rw [List.filter_cons_of_neg (by simp)]
        refine List.Perm.cons _ ?_
        rw [List.filter_eq_self.2]
        intro a ha
        have : a.page.id ≠ it.page.id := fun e => hn.1 (List.mem_map.2 ⟨a, ha, e⟩)
        simpa using this
      · have hne : y.page.id ≠ it.page.id := fun e => hn.1 (List.mem_map.2 ⟨it, hm, e.symm⟩)
        rw [List.filter_cons_of_pos (by simpa using hne)]
        exact (List.Perm.cons _ (ih hn.2 hm)).trans (List.Perm.swap _ _ _)
  exact hsub p.items h.ids hit
theorem Pl.wf.drop {p : Pl} (h : p.wf) {it : It} (hit : it ∈ p.items) : (p.drop it.page.id it.idx).wf := by
  have hp := Pl.drop_perm h hit
  have hm : ∀ y, y ∈ (p.drop it.page.id it.idx).items → y ∈ p.items := fun y hy => (List.mem_filter.1 hy).1
  refine ⟨h.n1, h.n64, ?_, ?_, fun y hy => h.pg y (hm y hy), fun y hy => h.small y (hm y hy)⟩
  · refine List.Perm.trans ?_ h.idx
    simp only [Pl.drop]
    rw [List.append_assoc]
    refine List.Perm.append_left _ ?_
    exact (hp.map (·.idx)).symm
  · have := (hp.map (·.page.id)).nodup_iff.1 h.ids
    rw [List.map_cons, List.nodup_cons] at this
    exact this.2
theorem Pl.drop_length {p : Pl} (h : p.wf) {it : It} (hit : it ∈ p.items) : (p.drop it.page.id it.idx).items.length = p.items.length - 1 := by
  have := (Pl.drop_perm h hit).length_eq
  rw [List.length_cons] at this
  simp only [Pl.drop]
  omega
theorem Pl.lk_drop {p : Pl} (id i : Nat) : ∀ q, (p.drop id i).lk q = lkDel p.lk id q := by
  intro q
  unfold lkDel Pl.lk
  have hf : (p.drop id i).find q = if q = id then none else p.find q := by
    unfold Pl.find Pl.drop
    simp only
    rw [List.find?_filter]
    split
    · rename_i e
      subst e
      rw [List.find?_eq_none]
      intro x _
      simp
    · rename_i e
      congr 1
      funext x
      by_cases hx : x.page.id = q
      · simp [hx, e]
      · simp [hx]
  rw [hf]
  split <;> rfl
end Sp

section
variable {F R : Foot} {w w' : World} {gp gd gl at_ base fb cb mb s r : Nat} {v : Value} {cs : Array Value} {fl ids : List Nat} {p : Sp.Pl}

theorem ownsRow_heap {w : World} {e : TypeId} {k n : Nat} {v : Value} {xs : List Value} {b : Nat} (h : w.ownsRow b e k v n xs) {g : Nat} (hg : v.ownBlock = some g) : ∃ cur, w.heap[g]? = some (.cells cur e (0, 0)) := by
  rcases h.2 with ⟨rfl, _⟩ | ⟨g', cap, cur, rfl, _, hh, _⟩
  · simp [Value.ownBlock] at hg
  · simp only [Value.ownBlock, Option.some.injEq] at hg
    subst hg
    exact ⟨cur, hh⟩

theorem IsPlAt.own_ne (h : IsPlAt F R w gp gd gl at_ base fb cb mb v s r cs fl ids p) : v.ownBlock ≠ some gp ∧ v.ownBlock ≠ some fb ∧ v.ownBlock ≠ some cb ∧ v.ownBlock ≠ some mb := by
  refine ⟨fun e => ?_, fun e => ?_, fun e => ?_, fun e => ?_⟩ <;> obtain ⟨cur, hc⟩ := ownsRow_heap h.row e
  · have := h.blk; unfold Blk at this; rw [hc] at this; injection this with this; injection this with _ this _; exact absurd this (by decide)
  · have := h.fr.blk; unfold Blk at this; rw [hc] at this; injection this with this; injection this with _ this _; exact absurd this (by decide)
  · rw [h.chan] at hc; cases hc
  · obtain ⟨D, ⟨es, cl, h1, _⟩, _⟩ := h.map; rw [h1] at hc; cases hc
theorem IsPlAt.ne (h : IsPlAt F R w gp gd gl at_ base fb cb mb v s r cs fl ids p) : gp ≠ fb ∧ gp ≠ cb ∧ gp ≠ mb ∧ fb ≠ cb ∧ fb ≠ mb ∧ mb ≠ cb := by
  refine ⟨h.blk.ne_ h.fr.blk (by decide), h.blk.notChan h.chan, ?_, h.fr.blk.notChan h.chan, ?_, h.map.notChan h.chan⟩ <;> rintro rfl <;> obtain ⟨D, ⟨es, cl, h1, _⟩, _⟩ := h.map
  · have := h.blk; unfold Blk at this; rw [h1] at this; cases this
  · have := h.fr.blk; unfold Blk at this; rw [h1] at this; cases this

theorem row_keep {v : Value} {n : Nat} {xs : List Value} (h : w.ownsRow 0 33 1 v n xs) (hk : ∀ b, v.ownBlock = some b → w'.heap[b]? = w.heap[b]?) : w'.ownsRow 0 33 1 v n xs := by
  refine ⟨h.1, ?_⟩
  rcases h.2 with h' | ⟨b, cap, cur, rfl, hb, hh, rest⟩
  · exact .inl h'
  · exact .inr ⟨b, cap, cur, rfl, hb, (hk b rfl).trans hh, rest⟩

/-- cells of one frame turned. -/
structure Framed (cs cs' : Array Value) (i : Nat) : Prop where
  size : cs'.size = cs.size
  rest : ∀ k, (k < i * 9 ∨ i * 9 + 9 ≤ k) → cs'[k]? = cs[k]?

theorem Framed.other {cs cs' : Array Value} {i k j : Nat} (h : Framed cs cs' i) (hk : k ≠ i) (hj : j < 9) : cs'[k * 9 + j]? = cs[k * 9 + j]? :=
  h.rest _ (by omega)
theorem Framed.cell {cs : Array Value} {i j : Nat} (hj : j < 9) (u : Value) : Framed cs (cs.setIfInBounds (i * 9 + j) u) i :=
  ⟨by simp, fun k hk => by rw [Array.getElem?_setIfInBounds_ne (by omega)]⟩
theorem Framed.trans {cs cs' cs'' : Array Value} {i : Nat} (h : Framed cs cs' i) (k : Framed cs' cs'' i) : Framed cs cs'' i :=
  ⟨k.size.trans h.size, fun j hj => (k.rest j hj).trans (h.rest j hj)⟩
theorem Framed.part {cs : Array Value} {i : Nat} {l : List Value} (hl : l.length = 9) (hi : i * 9 + 9 ≤ cs.size) : Framed cs (partRow cs (i * 9) l) i := by
  refine ⟨by simp [partRow]; omega, fun k hk => ?_⟩
  unfold partRow
  rw [List.getElem?_toArray, List.append_assoc]
  rcases hk with hk | hk
  · rw [List.getElem?_append_left (by simp; omega), List.getElem?_take, if_pos hk, Array.getElem?_toList]
  · rw [List.getElem?_append_right (by simp; omega), List.getElem?_append_right (by simp; omega), List.getElem?_drop, Array.getElem?_toList]
    congr 1
    simp
    omega
theorem part_at {cs : Array Value} {i : Nat} {l : List Value} (hl : l.length = 9) (hi : i * 9 + 9 ≤ cs.size) {j : Nat} (hj : j < 9) : (partRow cs (i * 9) l)[i * 9 + j]? = l[j]? := by
  unfold partRow
  rw [List.getElem?_toArray, List.append_assoc, List.getElem?_append_right (by simp; omega), List.getElem?_append_left (by simp; omega)]
  congr 1
  simp
  omega

/-- A page's frame turned. -/
theorem IsPlAt.upd (h : IsPlAt F R w gp gd gl at_ base fb cb mb v s r cs fl ids p) {it : Sp.It} {f : Sp.It → Sp.It} (hf : Sp.Tame f) (hit : it ∈ p.items)
    (hgood : (f it).page.wf ∧ (f it).page.may ∧ (f it).pins ≤ 1000000000 ∧ (f it).from_ < 18446744073709551616) (hs : w.heap.size ≤ w'.heap.size) (hk : ∀ b, F b → b ≠ fb → w'.heap[b]? = w.heap[b]?) {cs' : Array Value}
    (hblk : Blk w' fb 145 cs') (hfr : Framed cs cs' it.idx) (hnew : ∃ A c, OkAddr A ∧ RowsAt R w' A (f it).page.rows ∧ ∀ j, j < 9 → cs'[it.idx * 9 + j]? = (frCells (f it) A c)[j]?) :
    IsPlAt F R w' gp gd gl at_ base fb cb mb v s r cs' fl ids (p.upd it.page.id f) := by
  obtain ⟨f1, f2, f3, f4, f5⟩ := h.foot
  obtain ⟨n1, n2, n3, n4, n5, n6⟩ := h.ne
  obtain ⟨o1, o2, o3, o4⟩ := h.own_ne
  have hone : ∀ x ∈ p.items, x.page.id = it.page.id → x = it := fun x hx e => Sp.nodup_map_eq h.wf.ids hx hit e
  refine ⟨Sp.Pl.upd_wf h.wf hf (fun x hx e => by rw [hone x hx e]; exact hgood), h.blk.keep (hk _ f1 n1), ⟨hblk, hfr.size.trans h.fr.size, fun y hy => ?_, fun i hi j hj => ?_⟩, (hk _ f3 (Ne.symm n4)).trans h.chan, ?_,
    row_keep h.row (fun b hb => hk b (f5 b hb) (fun e => o2 (by rw [hb, e]))), h.foot, h.rows, fun b hb => Nat.lt_of_lt_of_le (h.lt b hb) hs⟩
  · obtain ⟨x, hx, rfl⟩ := Sp.Pl.upd_mem hy
    split
    · rename_i e
      have := hone x hx e
      subst this
      simpa [hf.idx] using hnew
    · rename_i e
      obtain ⟨A, c, hA, hR, hc⟩ := h.fr.item x hx
      refine ⟨A, c, hA, hR.keep hs (fun b hb => hk b (h.rows b hb).1 (h.rows b hb).2.2.1), fun j hj => ?_⟩
      rw [hfr.other (fun e2 => e (congrArg (fun x => x.page.id) (Sp.nodup_map_eq h.wf.nodup_idx hx hit e2))) hj]
      exact hc j hj
  · have hi' : i ∈ p.free := hi
    rw [hfr.other (h.wf.free_ne hi' hit) hj]
    exact h.fr.free i hi' j hj
  · have : (p.upd it.page.id f).items.length = p.items.length := by simp [Sp.Pl.upd]
    rw [this]
    exact (h.map.keep (hk _ f4 (Ne.symm n5))).congr (fun q => Sp.Pl.upd_lk hf q)

/-- The same pages, in another order. -/
theorem IsPlAt.perm (h : IsPlAt F R w gp gd gl at_ base fb cb mb v s r cs fl ids p) {l : List Sp.It} (hl : l.Perm p.items) : IsPlAt F R w gp gd gl at_ base fb cb mb v s r cs fl ids { p with items := l } := by
  have hm : ∀ x, x ∈ l ↔ x ∈ p.items := fun x => hl.mem_iff
  have hids : (l.map (·.page.id)).Nodup := (hl.map _).nodup_iff.2 h.wf.ids
  have hwf : Sp.Pl.wf { p with items := l } := ⟨h.wf.n1, h.wf.n64, (List.Perm.append_left _ (hl.map _)).trans h.wf.idx, hids, fun x hx => h.wf.pg x ((hm x).1 hx), fun x hx => h.wf.small x ((hm x).1 hx)⟩
  refine ⟨hwf, h.blk, ⟨h.fr.blk, h.fr.size, fun x hx => h.fr.item x ((hm x).1 hx), h.fr.free⟩, h.chan, ?_, h.row, h.foot, h.rows, h.lt⟩
  have e : ({ p with items := l } : Sp.Pl).items.length = p.items.length := hl.length_eq
  rw [e]
  refine h.map.congr (fun q => ?_)
  unfold Sp.Pl.lk
  congr 1
  cases hq : p.find q with
  | none =>
    rw [Sp.Pl.find_none] at hq ⊢
    exact fun x hx => hq x ((hm x).1 hx)
  | some y =>
    obtain ⟨hy, rfl⟩ := Sp.Pl.find_mem hq
    exact Sp.Pl.find_of (p := { p with items := l }) hwf ((hm y).2 hy)

/-- The row turned. -/
theorem IsPlAt.rowed (h : IsPlAt F R w gp gd gl at_ base fb cb mb v s r cs fl ids p) {v' : Value} {ids' : List Nat} (hs : w.heap.size ≤ w'.heap.size)
    (hk : ∀ b, F b → b ≠ gp → v.ownBlock ≠ some b → w'.heap[b]? = w.heap[b]?) (hP : Blk w' gp 140 (plCells gd gl at_ base fb p.n cb mb v')) (hr : w'.ownsRow 0 33 1 v' ids'.length (ids'.map fun (i : Nat) => Value.int .u32 (i : Int)))
    (hv : ∀ b, v'.ownBlock = some b → v.ownBlock = some b ∨ w.heap.size ≤ b) : IsPlAt (fun b => F b ∨ v'.ownBlock = some b) R w' gp gd gl at_ base fb cb mb v' s r cs fl ids' p := by
  obtain ⟨f1, f2, f3, f4, f5⟩ := h.foot
  obtain ⟨n1, n2, n3, n4, n5, n6⟩ := h.ne
  obtain ⟨o1, o2, o3, o4⟩ := h.own_ne
  refine ⟨h.wf, hP, h.fr.keep hs (hk _ f2 (Ne.symm n1) o2) (fun b hb => hk b (h.rows b hb).1 (h.rows b hb).2.1 (h.rows b hb).2.2.2.2.2), (hk _ f3 (Ne.symm n2) o3).trans h.chan, h.map.keep (hk _ f4 (Ne.symm n3) o4), hr,
    ⟨.inl f1, .inl f2, .inl f3, .inl f4, fun b hb => .inr hb⟩, fun b hb => ?_, fun b hb => ?_⟩
  · obtain ⟨a1, a2, a3, a4, a5, a6⟩ := h.rows b hb
    refine ⟨.inl a1, a2, a3, a4, a5, fun e => ?_⟩
    rcases hv b e with e1 | e1
    · exact a6 e1
    · have := h.lt b a1; omega
  · rcases hb with hb | hb
    · exact Nat.lt_of_lt_of_le (h.lt b hb) hs
    · obtain ⟨cur, hc⟩ := ownsRow_heap hr hb
      exact (Array.getElem?_eq_some_iff.1 hc).1

/-- The channel turned. -/
theorem IsPlAt.chans (h : IsPlAt F R w gp gd gl at_ base fb cb mb v s r cs fl ids p) {fl' : List Nat} {s' r' : Nat} :
    IsPlAt F R (w.setChan cb p.n (fl'.map fun (i : Nat) => Value.int .i64 (i : Int)).toArray false s' r' false) gp gd gl at_ base fb cb mb v s' r' cs fl' ids p := by
  obtain ⟨f1, f2, f3, f4, f5⟩ := h.foot
  obtain ⟨n1, n2, n3, n4, n5, n6⟩ := h.ne
  obtain ⟨o1, o2, o3, o4⟩ := h.own_ne
  have hc : cb < w.heap.size := h.lt _ f3
  have hk : ∀ b, b ≠ cb → (w.setChan cb p.n (fl'.map fun (i : Nat) => Value.int .i64 (i : Int)).toArray false s' r' false).heap[b]? = w.heap[b]? := fun b hb => setChan_other w cb b _ _ _ _ _ _ hb
  have hsz : (w.setChan cb p.n (fl'.map fun (i : Nat) => Value.int .i64 (i : Int)).toArray false s' r' false).heap.size = w.heap.size := by simp [World.setChan]
  refine ⟨h.wf, h.blk.keep (hk _ n2), h.fr.keep (by omega) (hk _ n4) (fun b hb => hk b (h.rows b hb).2.2.2.1), heap_setChan _ _ _ _ _ _ _ _ hc, h.map.keep (hk _ n6), row_keep h.row (fun b hb => hk b (fun e => o3 (by rw [hb, e]))), h.foot, h.rows, fun b hb => by rw [hsz]; exact h.lt b hb⟩

/-- A page brought in. -/
theorem IsPlAt.bring (h : IsPlAt F R w gp gd gl at_ base fb cb mb v s r cs fl ids p) {x : Sp.Pg} {i : Nat} {rest : List Nat} {A : Option Addr} {c : Nat} {G : Foot} (hfree : p.free = i :: rest) (hn : p.find x.id = none) (hx : x.wf ∧ x.may)
    (hs : w.heap.size ≤ w'.heap.size) (hk : ∀ b, F b → b ≠ fb → b ≠ mb → w'.heap[b]? = w.heap[b]?) {cs' : Array Value}
    (hblk : Blk w' fb 145 cs') (hfr : Framed cs cs' i) (hA : OkAddr A) (hR : RowsAt G w' A x.rows) (hG : ∀ b, G b → ¬ F b ∧ b < w'.heap.size) (hc : ∀ j, j < 9 → cs'[i * 9 + j]? = (frCells ⟨x, 0, false, 0, i⟩ A c)[j]?)
    (hM : UMap Tryz.prog 33 3 w' mb (p.items.length + 1) (lkPut p.lk x.id i)) :
    IsPlAt (fun b => F b ∨ G b) (fun b => R b ∨ G b) w' gp gd gl at_ base fb cb mb v s r cs' fl ids (p.bring x i rest) := by
  obtain ⟨f1, f2, f3, f4, f5⟩ := h.foot
  obtain ⟨n1, n2, n3, n4, n5, n6⟩ := h.ne
  obtain ⟨o1, o2, o3, o4⟩ := h.own_ne
  refine ⟨h.wf.bring hfree hn hx, h.blk.keep (hk _ f1 n1 n3), ⟨hblk, hfr.size.trans h.fr.size, fun y hy => ?_, fun k hk' j hj => ?_⟩, (hk _ f3 (Ne.symm n4) (Ne.symm n6)).trans h.chan, ?_,
    row_keep h.row (fun b hb => hk b (f5 b hb) (fun e => o2 (by rw [hb, e])) (fun e => o4 (by rw [hb, e]))), ⟨.inl f1, .inl f2, .inl f3, .inl f4, fun b hb => .inl (f5 b hb)⟩, fun b hb => ?_, fun b hb => ?_⟩
  · rcases List.mem_append.1 hy with hy | hy
    · obtain ⟨A', c', hA', hR', hc'⟩ := h.fr.item y hy
      refine ⟨A', c', hA', (hR'.keep hs (fun b hb => hk b (h.rows b hb).1 (h.rows b hb).2.2.1 (h.rows b hb).2.2.2.2.1)).mono (fun b hb => .inl hb), fun j hj => ?_⟩
      rw [hfr.other (Ne.symm (h.wf.free_ne (by rw [hfree]; simp) hy)) hj]
      exact hc' j hj
    · rw [List.mem_singleton.1 hy]
      exact ⟨A, c, hA, hR.mono (fun b hb => .inr hb), hc⟩
  · have hk2 : k ∈ rest := hk'
    have hnd := h.wf.nodup_free
    rw [hfree, List.nodup_cons] at hnd
    rw [hfr.other (fun e => hnd.1 (by rw [← e]; exact hk2)) hj]
    exact h.fr.free k (by rw [hfree]; exact List.mem_cons_of_mem _ hk2) j hj
  · have : (p.bring x i rest).items.length = p.items.length + 1 := by simp [Sp.Pl.bring]
    rw [this]
    exact hM.congr (Sp.Pl.lk_bring h.wf hfree hn hx)
  · rcases hb with hb | hb
    · obtain ⟨a1, rest⟩ := h.rows b hb
      exact ⟨.inl a1, rest⟩
    · have hnF := (hG b hb).1
      exact ⟨.inr hb, fun e => hnF (e ▸ f1), fun e => hnF (e ▸ f2), fun e => hnF (e ▸ f3), fun e => hnF (e ▸ f4), fun e => hnF (f5 b e)⟩
  · rcases hb with hb | hb
    · exact Nat.lt_of_lt_of_le (h.lt b hb) hs
    · exact (hG b hb).2

/-- A page dropped. -/
theorem IsPlAt.drop (h : IsPlAt F R w gp gd gl at_ base fb cb mb v s r cs fl ids p) {it : Sp.It} (hit : it ∈ p.items)
    (hs : w.heap.size ≤ w'.heap.size) (hk : ∀ b, F b → b ≠ fb → b ≠ mb → w'.heap[b]? = w.heap[b]?) {cs' : Array Value}
    (hblk : Blk w' fb 145 cs') (hfr : Framed cs cs' it.idx) (hc : ∀ j, j < 9 → cs'[it.idx * 9 + j]? = zeroFr[j]?)
    (hM : UMap Tryz.prog 33 3 w' mb (p.items.length - 1) (lkDel p.lk it.page.id)) :
    IsPlAt F R w' gp gd gl at_ base fb cb mb v s r cs' fl ids (p.drop it.page.id it.idx) := by
  obtain ⟨f1, f2, f3, f4, f5⟩ := h.foot
  obtain ⟨n1, n2, n3, n4, n5, n6⟩ := h.ne
  obtain ⟨o1, o2, o3, o4⟩ := h.own_ne
  refine ⟨h.wf.drop hit, h.blk.keep (hk _ f1 n1 n3), ⟨hblk, hfr.size.trans h.fr.size, fun y hy => ?_, fun k hk' j hj => ?_⟩, (hk _ f3 (Ne.symm n4) (Ne.symm n6)).trans h.chan, ?_,
    row_keep h.row (fun b hb => hk b (f5 b hb) (fun e => o2 (by rw [hb, e])) (fun e => o4 (by rw [hb, e]))), h.foot, h.rows, fun b hb => Nat.lt_of_lt_of_le (h.lt b hb) hs⟩
  · obtain ⟨hy1, hy2⟩ := List.mem_filter.1 hy
    obtain ⟨A', c', hA', hR', hc'⟩ := h.fr.item y hy1
    refine ⟨A', c', hA', hR'.keep hs (fun b hb => hk b (h.rows b hb).1 (h.rows b hb).2.2.1 (h.rows b hb).2.2.2.2.1), fun j hj => ?_⟩
    have hne : y.idx ≠ it.idx := fun e => by
      have := Sp.nodup_map_eq h.wf.nodup_idx hy1 hit e
      subst this
      simp at hy2
    rw [hfr.other hne hj]
    exact hc' j hj
  · rcases List.mem_append.1 hk' with hk2 | hk2
    · rw [hfr.other (h.wf.free_ne hk2 hit) hj]
      exact h.fr.free k hk2 j hj
    · rw [List.mem_singleton.1 hk2]
      exact hc j hj
  · rw [Sp.Pl.drop_length h.wf hit]
    exact hM.congr (Sp.Pl.lk_drop _ _)
end
end Go.Proofs.YtafopojibpifoaaGreat

/- The walks of package pool: Unpin. -/
namespace Go.Proofs.YtafopojibpifoaaGreat
open Go.RowKit Go.Conc

theorem frCells_pins (it : Sp.It) (A : Option Addr) (c k j : Nat) (hj : j < 9) : (frCells { it with pins := k } A c)[j]? = if j = 6 then some (.int .i64 (k : Int)) else (frCells it A c)[j]? := by
  match j, hj with
  | 0, _ | 1, _ | 2, _ | 3, _ | 4, _ | 5, _ | 6, _ | 7, _ | 8, _ => rfl

/-- How often a page is pinned, turned. -/
theorem IsPlAt.pinned {F R : Foot} {w : World} {gp gd gl at_ base fb cb mb s r : Nat} {v : Value} {cs : Array Value} {fl ids : List Nat} {p : Sp.Pl} (h : IsPlAt F R w gp gd gl at_ base fb cb mb v s r cs fl ids p) {it : Sp.It} (hit : it ∈ p.items) (f : Nat → Nat) (hk : f it.pins ≤ 1000000000) :
    IsPlAt F R (w.setCell ⟨fb, it.idx * 9 + 6, none⟩ (.int .i64 (f it.pins : Nat))) gp gd gl at_ base fb cb mb v s r (cs.setIfInBounds (it.idx * 9 + 6) (.int .i64 (f it.pins : Nat))) fl ids (p.upd it.page.id fun x => { x with pins := f x.pins }) := by
  obtain ⟨A, c, hA, hR, hc⟩ := h.fr.item it hit
  have hkeep : ∀ b, F b → b ≠ fb → (w.setCell ⟨fb, it.idx * 9 + 6, none⟩ (.int .i64 (f it.pins : Nat))).heap[b]? = w.heap[b]? := fun b _ hb => Below.heap_setCell w _ _ b hb
  have hsz : w.heap.size ≤ (w.setCell ⟨fb, it.idx * 9 + 6, none⟩ (.int .i64 (f it.pins : Nat))).heap.size := by simp [World.setCell]
  refine h.upd (f := fun x => { x with pins := f x.pins }) ⟨fun _ => rfl, fun _ => rfl⟩ hit ⟨(h.wf.pg it hit).1, (h.wf.pg it hit).2, hk, (h.wf.small it hit).2⟩ hsz hkeep (h.fr.blk.set_ _ _) (Framed.cell (by omega) _) ⟨A, c, hA, hR.keep hsz (fun b hb => hkeep b (h.rows b hb).1 (h.rows b hb).2.2.1), fun j hj => ?_⟩
  have hlt := h.wf.idx_lt hit
  have hcs := h.fr.size
  rw [frCells_pins it A c _ j hj]
  split
  · rename_i e
    subst e
    rw [Array.getElem?_setIfInBounds_self_of_lt (by omega)]
  · rename_i e
    rw [Array.getElem?_setIfInBounds_ne (by omega)]
    exact hc j hj

theorem IsPlAt.pins_frozen {F R : Foot} {w : World} {gp gd gl at_ base fb cb mb s r : Nat} {v : Value} {cs : Array Value} {fl ids : List Nat} {p : Sp.Pl} (h : IsPlAt F R w gp gd gl at_ base fb cb mb v s r cs fl ids p) (k : Nat) : w.frozen? ⟨fb, k, none⟩ = false := h.fr.blk.frozen k

set_option maxRecDepth 100000 in
set_option maxHeartbeats 1000000 in
theorem pool_unpin {F : Foot} {w : World} {gp gd gl at_ base : Nat} {p : Sp.Pl} (h : IsPl F w gp gd gl at_ base p) {id : Nat} (hid : id < 4294967296) {it : Sp.It} (hf : p.find id = some it) (hp : 1 ≤ it.pins) :
    Calls Tryz.prog 43 #[ptr gp, u32v id] w fun e w' => e = .returned (.int .i64 0) ∧ IsPl F w' gp gd gl at_ base (p.upd id fun x => { x with pins := x.pins - 1 }) ∧ Turns F F w w' := by
  obtain ⟨R, fb, cb, mb, v, s, r, cs, h⟩ := h
  obtain ⟨c0, c1, c2, c3, c4, c5, c6, c7⟩ := h.cells
  have HM := Lib.hid (pool_made c6)
  have hl := h.look_in hid hf
  obtain ⟨hit, rfl⟩ := Sp.Pl.find_mem hf
  have hlt := h.wf.idx_lt hit
  have cp := h.pins hit
  have hn := h.wf.n64
  have hs := h.wf.small it hit
  have e0 : decide ((it.pins : Int) = 0) = false := by rw [decide_eq_false_iff_not]; omega
  have hz := h.pins_frozen (it.idx * 9 + 6)
  have H := Lib.hid (h.pinned hit (fun k => k - 1) (by omega))
  have hF := h.foot.2.1
  have e1 : ((it.pins - 1 : Nat) : Int) = (it.pins : Int) - 1 := by omega
  have eu : ((p.upd it.page.id fun x => { x with pins := x.pins - 1 }).items.map (·.page.id)) = p.items.map (·.page.id) := Sp.Pl.upd_ids ⟨fun _ => rfl, fun _ => rfl⟩
  rw [e1, ← eu] at H
  have HI : IsPl F _ gp gd gl at_ base (p.upd it.page.id fun x => { x with pins := x.pins - 1 }) := ⟨R, fb, cb, mb, v, s, r, _, H.out⟩
  have HI := Lib.hid HI
  clear h c0 c1 c2 c3 c5 c7 e1 H eu
  go_enter Tryz.func43, Tryz.ntmps43
  go_wp2_with fail
  refine HM.out.mono ?_
  rintro e w1 ⟨rfl, hw⟩
  subst w1
  go_wp2_with fail
  go_ret
  exact ⟨rfl, HI.out, (Turns.refl F w).setCell (p := ⟨fb, it.idx * 9 + 6, none⟩) (.inl hF) _⟩
end Go.Proofs.YtafopojibpifoaaGreat

/- The walks of package pool: copied. -/
namespace Go.Proofs.YtafopojibpifoaaGreat
open Go.RowKit Go.Conc

set_option maxRecDepth 100000 in
set_option maxHeartbeats 1000000 in
theorem pool_copied {w : World} {G : Foot} {p : Sp.Pg} {A : Option Addr} {c : Nat} (hA : OkAddr A) (hR : RowsAt G w A p.rows) (hl : p.rows.length ≤ 1000000) :
    Calls Tryz.prog 65 #[pgV p A c] w fun e w' => ∃ A' c', e = .returned (pgV p A' c') ∧ OkAddr A' ∧ RowsAt (fun b => w.heap.size ≤ b) w' A' p.rows ∧ Below w.heap.size w w' := by
  have HC := Lib.hid fun (W : World) (h : RowsAt G W A p.rows) => clone_rows (c := c) h hA hl
  have HR := Lib.hid hR
  clear hR hA
  go_enter Tryz.func65, Tryz.ntmps65
  go_wp2_with fail
  have hX := (Blk.new w 51 #[.int .u8 p.kind, .int .u8 p.level, .int .u32 p.id, .int .u64 p.lsn, .int .u32 p.next, .slice A p.rows.length c]).alloc (.cells #[.int .u8 0, .int .u8 0, .int .u32 0, .int .u64 0, .int .u32 0, .slice none 0 0] 51)
  have hY := Blk.new (w.alloc (.cells #[.int .u8 p.kind, .int .u8 p.level, .int .u32 p.id, .int .u64 p.lsn, .int .u32 p.next, .slice A p.rows.length c] 51)) 51 #[.int .u8 0, .int .u8 0, .int .u32 0, .int .u64 0, .int .u32 0, .slice none 0 0]
  have hb0 := ((Below.refl w.heap.size w).alloc (Nat.le_refl _) (.cells #[.int .u8 p.kind, .int .u8 p.level, .int .u32 p.id, .int .u64 p.lsn, .int .u32 p.next, .slice A p.rows.length c] 51)).alloc (by simp) (.cells #[.int .u8 0, .int .u8 0, .int .u32 0, .int .u64 0, .int .u32 0, .slice none 0 0] 51)
  have hR2 := Lib.hid (Reads.below HR.out hb0)
  have e1 : (w.alloc (.cells #[.int .u8 p.kind, .int .u8 p.level, .int .u32 p.id, .int .u64 p.lsn, .int .u32 p.next, .slice A p.rows.length c] 51)).heap.size = w.heap.size + 1 := by simp
  rw [e1] at hY
  clear e1
  refine (HC.out _ hR2.out).mono ?_
  rintro e w1 ⟨A', c', rfl, hA', hR', hb1⟩
  have hb := Lib.hid (hb0.trans (hb1.mono (by simp; omega)))
  have hX := hX.below hb1 (by simp; omega)
  have hY := hY.below hb1 (by simp)
  have hR1 := Lib.hid (hR'.mono (G' := fun b => w.heap.size + 2 ≤ b) (fun b hb => by have hb : _ ≤ b := hb; simp at hb; omega))
  have hA1 := Lib.hid hA'
  have hs1 := hb1.size
  simp at hs1
  have x0 := hX.cell 0
  have x1 := hX.cell 1
  have x2 := hX.cell 2
  have x3 := hX.cell 3
  have x4 := hX.cell 4
  have x5 := hX.cell 5
  have f5 := hX.frozen 5
  simp only [List.getElem?_toArray, List.getElem?_cons_succ, List.getElem?_cons_zero] at x0 x1 x2 x3 x4 x5
  have hX5 := hX.set_ 5 (.slice A' p.rows.length c')
  have hY5 := hY.far (p := ⟨w.heap.size, 5, none⟩) (by show w.heap.size + 1 ≠ w.heap.size; omega) (.slice A' p.rows.length c')
  have y0 := hX5.cell 0
  have y1 := hX5.cell 1
  have y2 := hX5.cell 2
  have y3 := hX5.cell 3
  have y4 := hX5.cell 4
  have y5 := hX5.cell 5
  simp only [List.getElem?_toArray, List.getElem?_cons_succ, List.getElem?_cons_zero, List.setIfInBounds_toArray, List.set_cons_zero, List.set_cons_succ] at y0 y1 y2 y3 y4 y5
  have b0 := hY.cell 0
  have b1 := hY.cell 1
  have b2 := hY.cell 2
  have b3 := hY.cell 3
  have b4 := hY.cell 4
  have b5 := hY.cell 5
  simp only [List.getElem?_toArray, List.getElem?_cons_succ, List.getElem?_cons_zero] at b0 b1 b2 b3 b4 b5
  have g0 := hY.frozen 0
  have g1 := hY.frozen 1
  have g2 := hY.frozen 2
  have g3 := hY.frozen 3
  have g4 := hY.frozen 4
  have g5 := hY.frozen 5
  have HX := Lib.hid hX5
  have HY := Lib.hid hY5
  clear hX hY hX5 hY5 hb0 hb1 hR' hA' hR2 HC HR
  go_wp2_with fail
  obtain ⟨W8, hW8, hX8, ht8, hk8⟩ := six_set HY.out (.int .u8 p.kind) (.int .u8 p.level) (.int .u32 p.id) (.int .u64 p.lsn) (.int .u32 p.next) (.slice A' p.rows.length c')
  rw [hW8]
  have z0 := hX8.cell 0
  have z1 := hX8.cell 1
  have z2 := hX8.cell 2
  have z3 := hX8.cell 3
  have z4 := hX8.cell 4
  have z5 := hX8.cell 5
  simp only [List.getElem?_toArray, List.getElem?_cons_succ, List.getElem?_cons_zero] at z0 z1 z2 z3 z4 z5
  clear y0 y1 y2 y3 y4 y5 g0 g1 g2 g3 g4 g5 x0 x1 x2 x3 x4 x5 f5 b0 b1 b2 b3 b4 b5
  refine bodyPost_ret (v := pgV p A' c') (by rw [results_cell_row rfl _ _ (w.heap.size + 1) 51 _ (0, 0) _ rfl hX8 Tryz.underlying51 rfl rfl]) rfl ⟨A', c', rfl, hA1.out, ?_, ?_⟩
  · refine ((hR1.out.keep (w' := W8) ?_ (fun b hb => ?_))).mono (fun b hb => by have hb : w.heap.size + 2 ≤ b := hb; omega)
    · have := ht8.size
      simp [World.setCell] at this ⊢
      omega
    · have hb : w.heap.size + 2 ≤ b := hb
      rw [hk8 b (by omega), Below.heap_setCell _ _ _ b (by show b ≠ w.heap.size; omega)]
  · refine Below.trans (hb.out.setCell (p := ⟨w.heap.size, 5, none⟩) (Nat.le_refl _) _) (ht8.below (by simp [World.setCell]; omega) (fun b hb => by have hb : b = w.heap.size + 1 := hb; omega))
end Go.Proofs.YtafopojibpifoaaGreat

/- The walks of package pool: pins. -/
namespace Go.Proofs.YtafopojibpifoaaGreat
open Go.RowKit Go.Conc

section
variable {P : Program} {ops : Array Oper} {Q : Exit → Act → World → Prop}
/-- One of several that may come up: a call of a Go function. -/
theorem op_call {i : Nat} (t : Tmp) {f : FuncId} {args : Array Value} {R : Ending → World → Prop} {oi : Oper} {a : Act} {w w' : World} {K : Act → World → Prop} (hi : ops[i]? = some oi) (hd : oi.dst = some t)
    (hw : Region.wanted oi (yielded ops a.tmps) = true) (hy : (execOp a.eval oi).run P w = .ok (.enter f args) w') (hc : Calls P f args w' R)
    (h : ∀ e w'', R e w'' → ∃ v, e = .returned v ∧ K { tmps := a.tmps.setIfInBounds t v, defers := a.defers } w'') : wpOp P ops Q i K a w := by
  unfold wpOp
  simp only [hi]
  rw [if_pos hw]
  refine .inl ?_
  unfold Oper.wp
  rw [hy]
  refine hc.mono fun e w'' hR => ?_
  obtain ⟨v, rfl, h1⟩ := h e w'' hR
  show K (a.put oi.dst v) w''
  rw [hd]
  exact h1
end

/-- the block of a row. -/
abbrev own (v : Value) : Foot := fun b => v.ownBlock = some b

/-- What holds behind a row's DeleteFunc and the making of the row that is appended. -/
structure PinMid (w1 W : World) (v v' : Value) (g8 id : Nat) (ids : List Nat) : Prop where
  row : W.ownsRow 0 33 1 v' (ids.filter (fun x => !(x == id))).length ((ids.filter (fun x => !(x == id))).map u32v)
  sub : ∀ k, v'.ownBlock = some k → v.ownBlock = some k
  one : Blk W g8 33 #[u32v id]
  fresh : w1.heap.size ≤ g8
  turns : Turns (own v) (own v) w1 W

/-- What holds behind the append. -/
structure PinRow (w1 W : World) (v v2 : Value) (id : Nat) (ids : List Nat) : Prop where
  row : W.ownsRow 0 33 1 v2 (ids.filter (fun x => !(x == id)) ++ [id]).length ((ids.filter (fun x => !(x == id)) ++ [id]).map u32v)
  sub : ∀ k, v2.ownBlock = some k → v.ownBlock = some k ∨ w1.heap.size ≤ k
  turns : Turns (own v) (own v) w1 W

/-- A page pinned once more: it stands last. -/
def Sp.Pl.pinUp (p : Sp.Pl) (id : Nat) : Sp.Pl := p.upd id fun x => { x with pins := x.pins + 1 }
def PinsPost (F R : Foot) (w : World) (gp gd gl at_ base fb cb mb s r : Nat) (fl ids : List Nat) (p : Sp.Pl) (it : Sp.It) (e : Ending) (w' : World) : Prop :=
  ∃ F' v' cs', e = .returned (.pointer (some ⟨fb, it.idx * 9, none⟩)) ∧ IsPlAt F' R w' gp gd gl at_ base fb cb mb v' s r cs' fl (ids.filter (fun x => !(x == it.page.id)) ++ [it.page.id]) (p.pinUp it.page.id) ∧ Turns F F' w w'

set_option maxRecDepth 100000 in
set_option maxHeartbeats 1000000 in
theorem pool_pins_walk {F R : Foot} {w : World} {gp gd gl at_ base fb cb mb s r : Nat} {v : Value} {cs : Array Value} {fl ids : List Nat} {p : Sp.Pl} (h : IsPlAt F R w gp gd gl at_ base fb cb mb v s r cs fl ids p) {id : Nat} (hid : id < 4294967296) {it : Sp.It} (hf : p.find id = some it) (hp : it.pins < 1000000000) (hl : ids.length ≤ 64) :
    Calls Tryz.prog 66 #[ptr gp, u32v id] w (PinsPost F R w gp gd gl at_ base fb cb mb s r fl ids p it) := by
  obtain ⟨hit, rfl⟩ := Sp.Pl.find_mem hf
  obtain ⟨iu, hiu, hzu0, hzu1, hzu2⟩ := info_parts u32_info
  have hown := h.own_ne
  have hlv : ∀ b, v.ownBlock = some b → b < w.heap.size := fun b hb => by
    obtain ⟨cur, hc⟩ := ownsRow_heap h.row hb
    exact (Array.getElem?_eq_some_iff.1 hc).1
  have h1 := Lib.hid (h.keep (w' := w.alloc (.cells #[u32v it.page.id] 33)) (by simp) (fun b hb => Below.heap_alloc w _ b (h.lt b hb)))
  have hid1 := Lib.hid (Blk.new w 33 #[u32v it.page.id])
  go_enter Tryz.func66, Tryz.ntmps66
  go_wp2_with fail
  have e1 : (w.alloc (.cells #[u32v it.page.id] 33)).heap.size = w.heap.size + 1 := by simp
  obtain ⟨w1, hw1⟩ : ∃ w1, w1 = w.alloc (.cells #[u32v it.page.id] 33) := ⟨_, rfl⟩
  rw [← hw1] at h1 hid1 e1 ⊢
  obtain ⟨b3, hb3⟩ : ∃ b3, b3 = w.heap.size := ⟨_, rfl⟩
  have hlt3 : ∀ b, v.ownBlock = some b → b ≠ b3 := fun b hb e => by have := hlv b hb; omega
  have hn3 : v.ownBlock ≠ some b3 := fun e => hlt3 _ e rfl
  rw [← hb3] at hid1 ⊢
  have hb3l : w.heap.size ≤ b3 := by omega
  have e2 : w.heap.size ≤ w1.heap.size := by omega
  have ht01 : Turns F F w w1 := by rw [hw1]; exact (Turns.refl F w).alloc _
  have hgw : gp < w.heap.size := h.lt gp h.foot.1
  clear hw1 h hb3 e1
  rename_i K hK
  have HK : ∀ (v' v2 : Value) (g8 : Nat) (W2 : World), PinRow w1 W2 v v2 it.page.id ids → K { tmps := #[ptr gp, u32v it.page.id, undef, ptr b3, .pointer none, undef, ptr gp, ptr gp, ptr gp, .pointer (some ⟨gp, 7, none⟩), v, .func (.func 99) #[] #[ptr b3], v', u32v it.page.id, .slice (some ⟨g8, 0, none⟩) 1 1, v2, ptr gp, .pointer (some ⟨gp, 7, none⟩), undef, undef, undef, undef, undef, undef, undef, undef, undef, undef, undef, undef, undef, undef, undef, undef, undef, undef, undef], defers := [] } (W2.setCell ⟨gp, 7, none⟩ v2) := by
    intro v' v2 g8 W2 ⟨hrow, hsub, htu⟩
    refine hK _ _ ?_
    have hgpb := h1.out.blk
    have hgl : gp < w1.heap.size := hgpb.lt
    have hlF := h1.out.lt
    have hrd := Lib.hid (h1.out.rowed (w' := W2.setCell ⟨gp, 7, none⟩ v2) (v' := v2) (ids' := ids.filter (fun x => !(x == it.page.id)) ++ [it.page.id]) (by simp [World.setCell]; exact htu.size)
      (fun b hb h1 h2 => (Below.heap_setCell W2 _ _ b h1).trans (htu.block b (hlF b hb) h2)) ((hgpb.turns htu hown.1).set_ 7 v2)
      (row_keep hrow (fun b hb => Below.heap_setCell W2 _ _ b (fun e => by
        have e : b = gp := e
        subst e
        rcases hsub _ hb with h | h
        · exact hown.1 h
        · omega))) hsub)
    have hb3 := Lib.hid ((hid1.out.turns htu hn3).far (p := ⟨gp, 7, none⟩) (show b3 ≠ gp from fun e => by omega) v2)
    have htt : Turns F (fun b => F b ∨ v2.ownBlock = some b) w (W2.setCell ⟨gp, 7, none⟩ v2) := by
      have t : Turns F F w (W2.setCell ⟨gp, 7, none⟩ v2) := (ht01.trans (htu.wider (fun b hb => h1.out.foot.2.2.2.2 b hb) (fun b hb => .inl hb))).setCell (p := ⟨gp, 7, none⟩) (.inl h1.out.foot.1) _
      refine ⟨t.os, t.tape, t.output, t.size, t.block, fun b hb => ?_⟩
      rcases hb with hb | hb
      · exact .inl hb
      · rcases hsub b hb with h | h
        · exact .inl (h1.out.foot.2.2.2.2 b h)
        · exact .inr (by omega)
    obtain ⟨W3, hW3⟩ : ∃ W3, W3 = W2.setCell ⟨gp, 7, none⟩ v2 := ⟨_, rfl⟩
    rw [← hW3] at hrd hb3 htt ⊢
    clear hW3 hrow htu hK
    obtain ⟨c0, c1, c2, c3, c4, c5, c6, c7⟩ := hrd.out.cells
    have hld := (hrd.out.keep (w' := W3.drew) (Nat.le_refl _) (fun _ _ => rfl)).look hid hf
    have hlt := hrd.out.wf.idx_lt hit
    have cp := hrd.out.pins hit
    have hn := hrd.out.wf.n64
    have hz := hrd.out.pins_frozen (it.idx * 9 + 6)
    have cid := hb3.out.cell 0
    simp only [List.getElem?_toArray, List.getElem?_cons_zero] at cid
    have HP := Lib.hid ((hrd.out.keep (w' := W3.drew) (Nat.le_refl _) (fun _ _ => rfl)).pinned hit (fun k => k + 1) (by omega))
    clear c0 c1 c2 c3 c5 c7
    go_wp2_with fail
    refine R_begin (fun W => W.cell? ⟨gp, 4, none⟩ = some (.slice (some ⟨fb, 0, none⟩) p.n p.n) ∧ W.cell? ⟨gp, 6, none⟩ = some (.map (some mb)) ∧ W.cell? ⟨b3, 0, none⟩ = some (u32v it.page.id) ∧
      (Instr.lookup 138 (.map (some mb)) (u32v it.page.id) false).run Tryz.prog W = .ok (.int .i64 it.idx) W) (fun _ => false) rfl ?_
    have hS := Lib.hid (⟨c4, c6, cid, hld⟩ : W3.drew.cell? ⟨gp, 4, none⟩ = some (.slice (some ⟨fb, 0, none⟩) p.n p.n) ∧ W3.drew.cell? ⟨gp, 6, none⟩ = some (.map (some mb)) ∧ W3.drew.cell? ⟨b3, 0, none⟩ = some (u32v it.page.id) ∧
      (Instr.lookup 138 (.map (some mb)) (u32v it.page.id) false).run Tryz.prog W3.drew = .ok (.int .i64 it.idx) W3.drew)
    clear hld
    refine R_take 0 18 (v := ?_) rfl rfl (by rfl) (by kernel_rfl) (fun _ _ _ h => h) hS.out ?_ ?_
    rotate_left
    · intro w hSw; (try dsimp only at hSw); go_simp; (try with_reducible rfl)
    simp only [List.setIfInBounds_toArray, List.set_cons_zero, List.set_cons_succ]
    refine R_take 1 19 (v := ?_) rfl rfl (by rfl) (by kernel_rfl) (fun _ _ _ h => h) hS.out ?_ ?_
    rotate_left
    · intro w hSw; (try dsimp only at hSw); go_simp; (try with_reducible rfl)
    simp only [List.setIfInBounds_toArray, List.set_cons_zero, List.set_cons_succ]
    refine R_take 2 20 (v := ?_) rfl rfl (by rfl) (by kernel_rfl) (fun _ _ _ h => h) hS.out ?_ ?_
    rotate_left
    · intro w hSw; (try dsimp only at hSw); go_simp; (try with_reducible rfl)
    simp only [List.setIfInBounds_toArray, List.set_cons_zero, List.set_cons_succ]
    refine R_take 3 21 (v := ?_) rfl rfl (by rfl) (by kernel_rfl) (fun _ _ _ h => h) hS.out ?_ ?_
    rotate_left
    · intro w hSw; (try dsimp only at hSw); go_simp; (try with_reducible rfl)
    simp only [List.setIfInBounds_toArray, List.set_cons_zero, List.set_cons_succ]
    refine R_take 4 22 (v := ?_) rfl rfl (by rfl) (by kernel_rfl) (fun _ _ _ h => h) hS.out ?_ ?_
    rotate_left
    · intro w hSw; (try dsimp only at hSw); go_simp; (try with_reducible rfl)
    simp only [List.setIfInBounds_toArray, List.set_cons_zero, List.set_cons_succ]
    refine R_take 5 23 (v := ?_) rfl rfl (by rfl) (by kernel_rfl) (fun _ _ _ h => h) hS.out ?_ ?_
    rotate_left
    · intro w hSw; (try dsimp only at hSw); go_simp; (try with_reducible rfl)
    simp only [List.setIfInBounds_toArray, List.set_cons_zero, List.set_cons_succ]
    refine R_take 6 24 (v := ?_) rfl rfl (by rfl) (by kernel_rfl) (fun _ _ _ h => h) hS.out ?_ ?_
    rotate_left
    · intro w hSw; (try dsimp only at hSw); go_simp; (try with_reducible rfl)
    simp only [List.setIfInBounds_toArray, List.set_cons_zero, List.set_cons_succ]
    refine R_take 7 25 (v := ?_) rfl rfl (by rfl) (by kernel_rfl) (fun _ _ _ h => h) hS.out ?_ ?_
    rotate_left
    · intro w hSw; (try dsimp only at hSw); go_simp; (try with_reducible rfl)
    simp only [List.setIfInBounds_toArray, List.set_cons_zero, List.set_cons_succ]
    refine R_take 8 26 (v := ?_) rfl rfl (by rfl) (by kernel_rfl) (fun _ _ _ h => h) hS.out ?_ ?_
    rotate_left
    · intro w hSw; (try dsimp only at hSw); go_simp; (try with_reducible rfl)
    simp only [List.setIfInBounds_toArray, List.set_cons_zero, List.set_cons_succ]
    refine R_take 9 27 (v := ?_) rfl rfl (by rfl) (by kernel_rfl) (fun _ _ _ h => h) hS.out ?_ ?_
    rotate_left
    · intro w hSw; (try dsimp only at hSw); go_simp; (try with_reducible rfl)
    simp only [List.setIfInBounds_toArray, List.set_cons_zero, List.set_cons_succ]
    refine R_take 10 28 (v := ?_) rfl rfl (by rfl) (by kernel_rfl) (fun _ _ _ h => h) hS.out ?_ ?_
    rotate_left
    · intro w hSw; (try dsimp only at hSw); go_simp; (try with_reducible rfl)
    simp only [List.setIfInBounds_toArray, List.set_cons_zero, List.set_cons_succ]
    refine R_take 11 5 (v := ?_) rfl rfl (by rfl) (by kernel_rfl) (fun _ _ _ h => h) hS.out ?_ ?_
    rotate_left
    · intro w hSw; (try dsimp only at hSw); go_simp; (try with_reducible rfl)
    simp only [List.setIfInBounds_toArray, List.set_cons_zero, List.set_cons_succ]
    refine R_done (by kernel_rfl) ?_ _
    rename_i K2 hK2
    refine hK2 _ _ ?_
    have cp : W3.drew.cell? ⟨fb, it.idx * 9 + 6, none⟩ = some (.int .i64 it.pins) := cp
    have hz : W3.drew.frozen? ⟨fb, it.idx * 9 + 6, none⟩ = false := hz
    have htt := htt.drew
    have hfF : F fb := h1.out.foot.2.1
    clear hK2 K2 hS c4 c6 cid hrd hb3
    obtain ⟨W4, hW4⟩ : ∃ W4, W4 = W3.drew := ⟨_, rfl⟩
    rw [← hW4] at cp hz htt HP ⊢
    clear hW4
    go_wp2_with fail
    go_ret
    exact ⟨_, v2, _, rfl, HP.out, htt.setCell (p := ⟨fb, it.idx * 9 + 6, none⟩) (.inl hfF) _⟩
  have HKH := Lib.hid HK
  clear HK hK
  have c7 := h1.out.cells.2.2.2.2.2.2.2
  have c3 := hid1.out.cell 0
  simp only [List.getElem?_toArray, List.getElem?_cons_zero] at c3
  refine R_begin (fun W => W.cell? ⟨gp, 7, none⟩ = some v ∧ W.cell? ⟨b3, 0, none⟩ = some (u32v it.page.id)) (fun j => decide (10 ≤ j)) rfl ?_
  have hS : w1.drew.cell? ⟨gp, 7, none⟩ = some v ∧ w1.drew.cell? ⟨b3, 0, none⟩ = some (u32v it.page.id) := ⟨c7, c3⟩
  refine R_take 0 6 (v := ?_) rfl rfl (by rfl) (by kernel_rfl) (fun _ _ _ h => h) hS ?_ ?_
  rotate_left
  · intro w hSw; (try dsimp only at hSw); go_simp; (try with_reducible rfl)
  simp only [List.setIfInBounds_toArray, List.set_cons_zero, List.set_cons_succ]
  refine R_take 1 7 (v := ?_) rfl rfl (by rfl) (by kernel_rfl) (fun _ _ _ h => h) hS ?_ ?_
  rotate_left
  · intro w hSw; (try dsimp only at hSw); go_simp; (try with_reducible rfl)
  simp only [List.setIfInBounds_toArray, List.set_cons_zero, List.set_cons_succ]
  refine R_take 2 8 (v := ?_) rfl rfl (by rfl) (by kernel_rfl) (fun _ _ _ h => h) hS ?_ ?_
  rotate_left
  · intro w hSw; (try dsimp only at hSw); go_simp; (try with_reducible rfl)
  simp only [List.setIfInBounds_toArray, List.set_cons_zero, List.set_cons_succ]
  refine R_take 3 9 (v := ?_) rfl rfl (by rfl) (by kernel_rfl) (fun _ _ _ h => h) hS ?_ ?_
  rotate_left
  · intro w hSw; (try dsimp only at hSw); go_simp; (try with_reducible rfl)
  simp only [List.setIfInBounds_toArray, List.set_cons_zero, List.set_cons_succ]
  refine R_take 4 10 (v := ?_) rfl rfl (by rfl) (by kernel_rfl) (fun _ _ _ h => h) hS ?_ ?_
  rotate_left
  · intro w hSw; (try dsimp only at hSw); go_simp; (try with_reducible rfl)
  simp only [List.setIfInBounds_toArray, List.set_cons_zero, List.set_cons_succ]
  refine R_take 5 11 (v := ?_) rfl rfl (by rfl) (by kernel_rfl) (fun _ _ _ h => h) hS ?_ ?_
  rotate_left
  · intro w hSw; (try dsimp only at hSw); go_simp; (try with_reducible rfl)
  simp only [List.setIfInBounds_toArray, List.set_cons_zero, List.set_cons_succ]
  refine R_take 7 13 (v := ?_) rfl rfl (by rfl) (by kernel_rfl) (fun _ _ _ h => h) hS ?_ ?_
  rotate_left
  · intro w hSw; (try dsimp only at hSw); go_simp; (try with_reducible rfl)
  simp only [List.setIfInBounds_toArray, List.set_cons_zero, List.set_cons_succ]
  refine R_all (rs := [6, 8]) (by kernel_rfl) (by simp) (fun i hi => ?_)
  simp only [List.mem_cons, List.not_mem_nil, or_false] at hi
  have hrow1 := h1.out.row
  have hgpb := h1.out.blk
  have hgl : gp < w1.heap.size := hgpb.lt
  have hbl : b3 < w1.heap.size := hid1.out.lt
  have T0 : Turns (own v) (own v) w1 w1.drew := (Turns.refl _ _).drew
  have hlv1 : ∀ b, v.ownBlock = some b → b < w1.heap.size := fun b hb => Nat.lt_of_lt_of_le (hlv b hb) e2
  rcases hi with rfl | rfl
  refine op_call 12 (w' := w1.drew) rfl rfl (by rfl) ?_ (delete_row (w := w1.drew) (asks_pins it.page.id b3) hrow1 hid1.out hn3) ?_
  · go_simp
  rintro e W ⟨v', rfl, r1, r2, r3⟩
  have T1 := T0.grown r2 (fun k hk => .inl hk)
  refine ⟨v', rfl, fun _ => ⟨((hgpb.turns T1 hown.1).cell 7).trans rfl, ((hid1.out.turns T1 hn3).cell 0).trans rfl⟩, ?_⟩
  simp only [List.setIfInBounds_toArray, List.set_cons_zero, List.set_cons_succ]
  refine R_run 8 14 (v := .slice (some ⟨W.heap.size, 0, none⟩) 1 1) (w' := W.alloc (.cells #[u32v it.page.id] 33)) rfl rfl (by rfl) (by kernel_rfl) (by go_simp) ?_ ?_
  · have T2 := T1.alloc (.cells #[u32v it.page.id] 33)
    exact fun _ => ⟨((hgpb.turns T2 hown.1).cell 7).trans rfl, ((hid1.out.turns T2 hn3).cell 0).trans rfl⟩
  simp only [List.setIfInBounds_toArray, List.set_cons_zero, List.set_cons_succ]
  have hm : PinMid w1 (W.alloc (.cells #[u32v it.page.id] 33)) v v' W.heap.size it.page.id ids := ⟨row_keep r1 (fun b hb => Below.heap_alloc W _ b (by have := T1.size; have := hlv1 b (r3 b hb); omega)), r3, Blk.new _ _ _, T1.size, T1.alloc _⟩
  obtain ⟨g8, hg8⟩ : ∃ g, g = W.heap.size := ⟨_, rfl⟩
  obtain ⟨W1, hW1⟩ : ∃ W1, W1 = W.alloc (.cells #[u32v it.page.id] 33) := ⟨_, rfl⟩
  rw [← hW1, ← hg8] at hm ⊢
  clear hW1 hg8 r1 r2 r3 T1
  rotate_left
  refine op_run 14 (v := .slice (some ⟨w1.drew.heap.size, 0, none⟩) 1 1) (w' := w1.drew.alloc (.cells #[u32v it.page.id] 33)) rfl rfl (by rfl) (by go_simp) ⟨?_, ?_⟩
  · have T2 := T0.alloc (.cells #[u32v it.page.id] 33)
    exact fun _ => ⟨((hgpb.turns T2 hown.1).cell 7).trans rfl, ((hid1.out.turns T2 hn3).cell 0).trans rfl⟩
  simp only [List.setIfInBounds_toArray, List.set_cons_zero, List.set_cons_succ]
  have T2 := T0.alloc (.cells #[u32v it.page.id] 33)
  have T2n := (Turns.refl noFoot w1).drew.alloc (.cells #[u32v it.page.id] 33)
  have hg8b := Blk.new w1.drew 33 #[u32v it.page.id]
  have hg8l : w1.heap.size ≤ w1.drew.heap.size := Nat.le_refl _
  obtain ⟨g8, hg8⟩ : ∃ g, g = w1.drew.heap.size := ⟨_, rfl⟩
  obtain ⟨W, hW⟩ : ∃ W, W = w1.drew.alloc (.cells #[u32v it.page.id] 33) := ⟨_, rfl⟩
  rw [← hW, ← hg8] at hg8b ⊢
  rw [← hW] at T2 T2n
  rw [← hg8] at hg8l
  clear hW hg8
  refine R_call 6 12 (w' := W) rfl rfl (by rfl) (by kernel_rfl) ?_ (delete_row (w := W) (asks_pins it.page.id b3) (row_keep hrow1 (fun b hb => T2n.block b (hlv1 b hb) (fun e => e))) (hid1.out.turns T2 hn3) hn3) ?_
  · go_simp
  rintro e W1 ⟨v', rfl, r1, r2, r3⟩
  have T1 := T2.grown r2 (fun k hk => .inl hk)
  refine ⟨v', rfl, fun _ => ⟨((hgpb.turns T1 hown.1).cell 7).trans rfl, ((hid1.out.turns T1 hn3).cell 0).trans rfl⟩, ?_⟩
  simp only [List.setIfInBounds_toArray, List.set_cons_zero, List.set_cons_succ]
  have hm : PinMid w1 W1 v v' g8 it.page.id ids := ⟨r1, r3, hg8b.grown r2 (fun e => by have := hlv1 g8 e.symm; omega), hg8l, T1⟩
  clear r1 r2 r3 T1 T2 T2n hg8b hg8l
  all_goals
    have hmt := hm.turns
    refine R_step 9 rfl (by rfl) (by kernel_rfl) ?_
    refine wp_append_own2 _ _ _ _ rfl 0 33 iu _ 1 4 Tryz.underlying34 hiu hzu0 hzu1 hzu2 rfl (by decide) _ _ _ rfl hm.row ⟨g8, 0, none⟩ 1 1 [u32v it.page.id] rfl rfl (fun j u hu => ?_) (fun x hx => by simp at hx; subst hx; rfl) ?_ ?_ (Nat.zero_le _) ?_
    · cases j with
      | zero => exact (hm.one.cell 0).trans hu
      | succ j => simp at hu
    · have := List.length_filter_le (fun x => !(x == it.page.id)) ids
      unfold maxLen; omega
    · have := List.length_filter_le (fun x => !(x == it.page.id)) ids
      omega
    intro v2 W2 q1 q2 q3
    have T2 := hmt.grown q2 (fun k hk => .inl (hm.sub k hk))
    obtain ⟨x0, x1, x2, rfl⟩ : ∃ g n c, v2 = .slice (some ⟨g, 0, none⟩) n c := by
      rcases q1.2 with ⟨_, h0⟩ | ⟨g6, c6, _, h0, _⟩
      · omega
      · exact ⟨g6, _, c6, h0⟩
    have hPR : PinRow w1 W2 v (.slice (some ⟨x0, 0, none⟩) x1 x2) it.page.id ids := ⟨by simpa using q1, fun k hk => (q3 k hk).imp (hm.sub k) (fun h => Nat.le_trans hmt.size h), T2⟩
    have f7 := (hgpb.turns T2 hown.1).frozen 7
    have c7 := (hgpb.turns T2 hown.1).cell 7
    simp only [plCells, List.getElem?_toArray, List.getElem?_cons_succ, List.getElem?_cons_zero] at c7
    have hSS : W2.cell? ⟨gp, 7, none⟩ = some v ∧ W2.cell? ⟨b3, 0, none⟩ = some (u32v it.page.id) := ⟨c7, ((hid1.out.turns T2 hn3).cell 0).trans rfl⟩
    clear q1 q2 q3 T2 hm hmt
    refine ⟨fun _ => hSS, ?_⟩
    refine R_put 15 rfl ?_
    simp only [List.setIfInBounds_toArray, List.set_cons_zero, List.set_cons_succ]
    refine R_run 10 16 (v := ptr gp) (w' := W2) rfl rfl (by rfl) (by kernel_rfl) (by go_simp) (fun h => nomatch h) ?_
    simp only [List.setIfInBounds_toArray, List.set_cons_zero, List.set_cons_succ]
    refine R_run 11 17 (v := .pointer (some ⟨gp, 7, none⟩)) (w' := W2) rfl rfl (by rfl) (by kernel_rfl) (by go_simp) (fun h => nomatch h) ?_
    simp only [List.setIfInBounds_toArray, List.set_cons_zero, List.set_cons_succ]
    refine R_store 12 (n := .skip) (w' := W2.setCell ⟨gp, 7, none⟩ (.slice (some ⟨x0, 0, none⟩) x1 x2)) rfl rfl (by rfl) (by kernel_rfl) (by go_simp) (.inl rfl) (fun h => nomatch h) ?_
    refine R_done (by kernel_rfl) ?_ _
    exact HKH.out v' _ g8 W2 hPR
end Go.Proofs.YtafopojibpifoaaGreat
