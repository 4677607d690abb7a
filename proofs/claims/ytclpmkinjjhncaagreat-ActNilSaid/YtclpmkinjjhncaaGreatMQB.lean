/- The loose writes of a disk: building one, a slice of one. -/
import Derived.Test.YtclpmkinjjhncaaGreatMQA
import Derived.Laws.Cover3
import Derived.Great.BuildSlice
import Derived.Laws.AppendOwn
import Derived.Deep.WholeRow
import Derived.RangeFuncNested
import Derived.RangeFuncBound
import Derived.RangeFuncCalls
import Derived.RangeFuncLeaves
import Derived.Conc.LoneCalls
import Derived.Conc.LoneSelect
import Derived.Calls
import Derived.Ground.SlgnProg
import Derived.Shelf.SlicesE.Clone
import Derived.Ground.SlgfProg
import Derived.Shelf.SlicesE.IndexFunc
import Derived.Shelf.SlicesE.DeleteFunc
import Derived.Test.YtclpmkinjjhncaaGreatProg
import Derived.Conc.LoneSelectN

namespace Go.Proofs.YtclpmkinjjhncaaGreat
open Go.RowKit

theorem loos_append (l : List (Nat × Sp.Bs)) (k : Nat) (s : Sp.Bs) : loos (l ++ [(k, s)]) = loos l ++ (.int .i64 (k : Int) :: bcs s) := by simp [loos]

theorem wr_info : (Tryz.prog.info? 168).map (fun i => (i.zero, i.size, i.bytes)) = some (some (.agg (#[.int .i64 0] ++ Array.replicate 128 (.int .u8 0))), 129, 136) := by kernel_rfl

/-- A loose write's cells. -/
def wrC (k : Nat) (s : Sp.Bs) : Array Value := (Value.int .i64 (k : Int) :: bcs s).toArray
theorem wrC_size {k : Nat} {s : Sp.Bs} (hs : s.length = 128) : (wrC k s).size = 129 := by simp [wrC, hs]
theorem wrC_list (k : Nat) (s : Sp.Bs) : (wrC k s).toList = .int .i64 (k : Int) :: bcs s := by simp [wrC]
theorem wrC_one (k : Nat) (s : Sp.Bs) : ∀ u ∈ (wrC k s).toList, u.oneCell' = true := by
  intro u hu
  rw [wrC_list] at hu
  rcases List.mem_cons.1 hu with rfl | hu
  · rfl
  · obtain ⟨b, _, rfl⟩ := List.mem_map.1 hu; rfl

/-- A sector's cells, as an aggregate that nobody reckons. -/
def secC (s : Sp.Bs) : Array Value := (bcs s).toArray
theorem secC_size {s : Sp.Bs} (hs : s.length = 128) : (secC s).size = 128 := by simp [secC, hs]

theorem wr_built (parts : List (Nat × Value)) : Tryz.prog.built 168 parts = Instr.fill (#[(0, 1), (1, 128)][·]?) (#[.int .i64 0] ++ Array.replicate 128 (.int .u8 0)) parts := by kernel_rfl

/-- Two parts, the first of one cell. -/
theorem fill_two (pl : Nat → Option (Nat × Nat)) (v0 v1 x : Value) (n : Nat) (cells cs : Array Value) (h0 : pl 0 = some (0, 1)) (h1 : pl 1 = some (1, n)) (c0 : v0.cells = #[x]) (c1 : v1.cells = cs) (hs : cs.size = n) (hc : cells.size = 1 + n) :
    Instr.fill pl cells [(0, v0), (1, v1)] = some (x :: cs.toList).toArray := by
  subst c1
  unfold Instr.fill
  simp only [h0, c0]
  rw [if_neg (by simp [hc])]
  unfold Instr.fill
  simp only [h1, hs]
  have hsz : ((#[x].zipIdx).foldl (fun cs (x : Value × Nat) => cs.setIfInBounds (0 + x.2) x.1) cells) = cells.setIfInBounds 0 x := by simp
  rw [hsz, if_neg (by simp [hc])]
  unfold Instr.fill
  congr 1
  rw [← Array.foldl_toList, Array.toList_zipIdx]
  obtain ⟨g1, g2⟩ := Great.foldl_set 1 v1.cells.toList 0 (cells.setIfInBounds 0 x)
  apply Array.ext_getElem?
  intro k
  rw [g2 k]
  rcases k with _ | k
  · rw [if_neg (by omega)]
    simp [show 0 < cells.size by omega]
  · by_cases hk : k < n
    · rw [if_pos (by simp; omega)]
      simp only [Nat.add_zero, List.getElem?_toArray, List.getElem?_cons_succ, Array.getElem?_toList]
      congr 1
    · rw [if_neg (by simp; omega), Array.getElem?_eq_none (by simp; omega), Array.getElem?_eq_none (by simp; omega)]

theorem wr_build (k : Nat) (s : Sp.Bs) (hs : s.length = 128) (W : World) :
    (Instr.build 168 #[(0, .int .i64 k), (1, .agg (secC s))]).run Tryz.prog W = .ok (.agg (wrC k s)) W := by
  refine run_build W _ _ _ ?_
  rw [wr_built, fill_two _ _ _ (.int .i64 k) 128 _ (secC s) rfl rfl rfl rfl (secC_size hs) (by simp)]
  rfl

theorem wr_slice (k : Nat) (s : Sp.Bs) (hs : s.length = 128) (W : World) :
    (Instr.buildSlice 162 1 #[(0, .agg (wrC k s))]).run Tryz.prog W = .ok (.slice (some ⟨W.heap.size, 0, none⟩) 1 1) (W.alloc (.cells (wrC k s) 168)) := by
  obtain ⟨i0, hi, hz0, hz1, hz2⟩ := info_parts wr_info
  have hsz := wrC_size (k := k) hs
  refine run_buildSlice W _ _ 1 _ _ i0 _ Tryz.underlying162 hi hz0 (by rw [hz1]; decide) (by rw [hz1]; decide) ?_
  rw [hz1]
  have := Great.fill_whole (s := 129) (by omega) [Value.agg (wrC k s)] ((Array.range (1 * 129)).map ((Value.agg (#[.int .i64 0] ++ Array.replicate 128 (.int .u8 0))).cells[· % (Value.agg (#[.int .i64 0] ++ Array.replicate 128 (.int .u8 0))).cells.size]!)) (fun v hv => by rw [List.mem_singleton.1 hv]; exact hsz) (by simp)
  rw [show ([Value.agg (wrC k s)].flatMap fun v => v.cells.toList).toArray = wrC k s by simp [Value.cells]] at this
  exact this

theorem own_ne {w : World} {base e size n g t : Nat} {v : Value} {xs : List Value} {cs : Array Value} (h : w.ownsRow base e size v n xs) (hB : Blk w g t cs) (hne : e ≠ t) : v.ownBlock ≠ some g := by
  rcases h.2 with ⟨rfl, _⟩ | ⟨b, cap, cur, rfl, hb, hh, _⟩
  · simp [Value.ownBlock]
  · intro he
    have : b = g := by simpa [Value.ownBlock] using he
    subst this
    unfold Blk at hB
    rw [hB] at hh
    injection hh with hh
    injection hh with _ ht
    exact hne ht.symm

theorem own_form {w : World} {base e size n : Nat} {v : Value} {xs : List Value} (h : w.ownsRow base e size v (n + 1) xs) : ∃ g c, v = .slice (some ⟨g, 0, none⟩) (n + 1) c := by
  rcases h.2 with ⟨_, h0⟩ | ⟨g, c, _, h0, _⟩
  · omega
  · exact ⟨g, c, h0⟩

theorem Turns.grown_by {F' : Foot} {w w' : World} {g : Nat} (h : Turns (only g) F' w w') : w.grownBy w' (some g) := ⟨h.os, h.tape, h.output, h.size, fun b hb hne => h.block b hb (fun e => hne (by rw [e]))⟩

end Go.Proofs.YtclpmkinjjhncaaGreat

/- append on an owned row, with where the row lies afterwards: where it lay, or in a new block. No program is named here. -/
namespace Go.Proofs.YtclpmkinjjhncaaGreat
open Go.RowKit

section
variable {P : Program} (w : World)

theorem run_append_own2 (base : Nat) (t ty e : TypeId) (i : TypeInfo) (z : Value) (size bytes : Nat) (ht : P.underlying t = some (.slice e)) (hi : P.info? e = some i) (hz : i.zero = some z)
    (hsize : i.size = size) (hby : i.bytes = bytes) (hzs : z.cells.size = size) (hsz : 0 < size)
    (v : Value) (n : Nat) (xs : List Value) (hown : w.ownsRow base e size v n xs)
    (a : Addr) (m c : Nat) (news : List Value) (hl : news.length = m * size) (hnews : ∀ j u, news[j]? = some u → w.cell? (a.add j) = some u) (h1 : ∀ u ∈ news, u.oneCell' = true)
    (h63 : n + m ≤ maxLen) (hbytes : (n + m) * bytes ≤ 140737488355328) (hbase : base ≤ w.heap.size) :
    ∃ v' w', (Builtin.append_ #[t, t] ty #[v, .slice (some a) m c]).run P w = .ok v' w' ∧ w'.ownsRow base e size v' (n + m) (xs ++ news) ∧ w.grownBy w' v.ownBlock ∧
      (∀ k, v'.ownBlock = some k → v.ownBlock = some k ∨ w.heap.size ≤ k) := by
  obtain ⟨v', w', hr, h2, h3, _⟩ := run_append_own (P := P) w base t ty e i z size bytes ht hi hz hsize hby hzs hsz v n xs hown a m c news hl hnews h1 h63 hbytes hbase
  refine ⟨v', w', hr, h2, h3, fun k hk => ?_⟩
  rcases hown.2 with ⟨rfl, rfl⟩ | ⟨g, cap, cur, rfl, hbg, hg, hnc, hcm, hcs, htake⟩
  · have hx : xs = [] := List.eq_nil_of_length_eq_zero (by simpa using hown.1)
    subst hx
    obtain ⟨v2, w2, hr2, h22, _, _⟩ := run_append_own (P := P) w w.heap.size t ty e i z size bytes ht hi hz hsize hby hzs hsz _ 0 [] (World.ownsRow_nil w w.heap.size e size) a m c news hl hnews h1 h63 hbytes (Nat.le_refl _)
    rw [hr] at hr2
    injection hr2 with hv hw
    subst hv hw
    exact .inr (h22.lt k hk).1
  · subst hsize
    subst hby
    by_cases hroom : n + m ≤ cap
    · have hfit : n * i.size + news.length ≤ cur.size := by rw [hl, hcs, ← Nat.add_mul]; exact Nat.mul_le_mul_right _ hroom
      have hr2 := run_append_room (P := P) w t ty e i ht hi g n cap cur hg a m c news hl hnews h1 hroom hfit
      rw [hr] at hr2
      injection hr2 with hv _
      subst hv
      exact .inl hk
    · have holds : ∀ j u, xs[j]? = some u → w.cell? ((⟨g, 0, none⟩ : Addr).add j) = some u := hown.cells (g := g) rfl
      have hr2 := run_append_grow (P := P) w t ty e i z ht hi hz ⟨g, 0, none⟩ n cap xs hown.1 holds a m c news hl hnews (by omega) (by simp only [maxLen] at h63; omega) (growslice_fits (by omega) hbytes)
      rw [hr] at hr2
      injection hr2 with hv _
      subst hv
      refine .inr ?_
      simp only [Value.ownBlock, Option.some.injEq] at hk
      omega

theorem wp_append_own2 {o : Oper} {a : Act} {K : Act → World → Prop} {Q : Exit → Act → World → Prop} (s x : Operand) (t : TypeId)
    (ho : o.op = .call { callee := .builtin .append, args := #[s, x], argTypes := #[t, t] })
    (base : Nat) (e : TypeId) (i : TypeInfo) (z : Value) (size bytes : Nat) (ht : P.underlying t = some (.slice e)) (hi : P.info? e = some i) (hz : i.zero = some z)
    (hsize : i.size = size) (hby : i.bytes = bytes) (hzs : z.cells.size = size) (hsz : 0 < size)
    (v : Value) (n : Nat) (xs : List Value) (hs : a.eval s = v) (hown : w.ownsRow base e size v n xs)
    (ad : Addr) (m c : Nat) (news : List Value) (hx : a.eval x = .slice (some ad) m c) (hl : news.length = m * size) (hnews : ∀ j u, news[j]? = some u → w.cell? (ad.add j) = some u) (h1 : ∀ u ∈ news, u.oneCell' = true)
    (h63 : n + m ≤ maxLen) (hbytes : (n + m) * bytes ≤ 140737488355328) (hbase : base ≤ w.heap.size)
    (h : ∀ v' w', w'.ownsRow base e size v' (n + m) (xs ++ news) → w.grownBy w' v.ownBlock → (∀ k, v'.ownBlock = some k → v.ownBlock = some k ∨ w.heap.size ≤ k) → K (a.put o.dst v') w') : o.wp P a w K Q := by
  obtain ⟨v', w', hr, h2, h3, h4⟩ := run_append_own2 (P := P) w base t o.type e i z size bytes ht hi hz hsize hby hzs hsz v n xs hown ad m c news hl hnews h1 h63 hbytes hbase
  unfold Oper.wp execOp
  simp only [ho, resolve, invoke, builtin, Sem.run_bind, Sem.run_pure, Result.andThen_ok, List.map_toArray, List.map_cons, List.map_nil, hs, hx, hr]
  exact h v' w' h2 h3 h4

theorem wpList_append_own2 {ops : Array Oper} {rest : List Oper} {o : Oper} {a : Act} {Q : Exit → Act → World → Prop} (hgd : o.guard = none) (s x : Operand) (t : TypeId)
    (ho : o.op = .call { callee := .builtin .append, args := #[s, x], argTypes := #[t, t] })
    (base : Nat) (e : TypeId) (i : TypeInfo) (z : Value) (size bytes : Nat) (ht : P.underlying t = some (.slice e)) (hi : P.info? e = some i) (hz : i.zero = some z)
    (hsize : i.size = size) (hby : i.bytes = bytes) (hzs : z.cells.size = size) (hsz : 0 < size)
    (v : Value) (n : Nat) (xs : List Value) (hs : a.eval s = v) (hown : w.ownsRow base e size v n xs)
    (ad : Addr) (m c : Nat) (news : List Value) (hx : a.eval x = .slice (some ad) m c) (hl : news.length = m * size) (hnews : ∀ j u, news[j]? = some u → w.cell? (ad.add j) = some u) (h1 : ∀ u ∈ news, u.oneCell' = true)
    (h63 : n + m ≤ maxLen) (hbytes : (n + m) * bytes ≤ 140737488355328) (hbase : base ≤ w.heap.size)
    (h : ∀ v' w', w'.ownsRow base e size v' (n + m) (xs ++ news) → w.grownBy w' v.ownBlock → (∀ k, v'.ownBlock = some k → v.ownBlock = some k ∨ w.heap.size ≤ k) → wpList P ops Q rest (a.put o.dst v') w') : wpList P ops Q (o :: rest) a w :=
  wpList_plain hgd fun _ hK => wp_append_own2 w s x t ho base e i z size bytes ht hi hz hsize hby hzs hsz v n xs hs hown ad m c news hx hl hnews h1 h63 hbytes hbase fun v' w' h2 h3 h4 => hK _ _ (h v' w' h2 h3 h4)
end
end Go.Proofs.YtclpmkinjjhncaaGreat

/- The walks of package disk: Write. -/
namespace Go.Proofs.YtclpmkinjjhncaaGreat
open Go.RowKit

set_option maxRecDepth 100000 in
set_option maxHeartbeats 4000000 in
theorem disk_write {F : Foot} {w : World} {g : Nat} {d : Sp.Dk} (h : IsDk F w g d) (k : Nat) (s : Sp.Bs) (hk : k < d.sure.length) (hs : s.length = 128) (hf : d.fuse ≠ 0) (hl : d.loose.length ≤ 1000000) :
    Calls Tryz.prog 125 #[.pointer (some ⟨g, 0, none⟩), .int .i64 k, str s] w fun e w' => ∃ F', e = .returned (.int .i64 0) ∧ IsDk F' w' g (d.put k s) ∧ Turns F F' w w' := by
  obtain ⟨h1, h2, a, v, h3, h4, h5, h6⟩ := h
  obtain ⟨i0, hi0, hz00, hz10, hz20⟩ := info_parts wr_info
  have hi := Lib.hid hi0
  have hz0 := Lib.hid hz00
  have hz1 := Lib.hid hz10
  have hz2 := Lib.hid hz20
  clear hi0 hz00 hz10 hz20
  have c0 := h3.cell 0
  simp only [dkCells, List.getElem?_toArray, List.getElem?_cons_zero] at c0
  have d1 : decide ((k : Int) < 0) = false := by simp
  have d2 : decide ((d.sure.length : Int) ≤ k) = false := by rw [decide_eq_false_iff_not]; omega
  have d3 : ((s.length : Int) != 128) = false := by rw [hs]; rfl
  have HM := Lib.hid (disk_may h3 h1.some_ hf)
  have HB := Lib.hid (disk_burns h3 h2)
  have H5 := Lib.hid h5
  have H4 := Lib.hid h4
  have HD := Lib.hid h3
  have HS := Lib.hid hs
  have hlt := h3.lt
  have hcv := conv_any (P := Tryz.prog) 9 102 5 s Tryz.underlying9 Tryz.underlying102 Tryz.underlying5
  have hat : ∀ w ad c, (Instr.arrayAt 166 (.slice ad s.length c)).run Tryz.prog w = .ok (.pointer ad) w := fun w ad c => run_arrayAt w 166 _ 128 ad s.length c Tryz.underlying166 (by omega)
  have hld : ∀ W, (loadVar 166 ⟨W.heap.size, 0, none⟩).run Tryz.prog (bytesW W 5 s) = .ok (.agg (secC s)) (bytesW W 5 s) := fun W => by
    refine run_loadVar_part _ _ _ (bcs s) _ (fun j v hv => ?_) Tryz.underlying166 rfl ?_
    · obtain ⟨hj, rfl⟩ := List.getElem?_eq_some_iff.1 hv
      have hj' : j < s.length := by simpa [bcs] using hj
      have hadd : (⟨W.heap.size, 0, none⟩ : Addr).add j = ⟨W.heap.size, j, none⟩ := by unfold Addr.add; split <;> simp_all
      rw [hadd, (bytesW_facts W 5 s).2.2.1 j hj']
      simp [bcs]
    · have hq := congrArg (fun o => o.map (·.2.1)) sec_info
      simp only [Option.map_map] at hq
      rw [show (bcs s).length = 128 by simpa [bcs] using hs]
      simpa using hq
  have hbd := wr_build k s hs
  have hbs := wr_slice k s hs
  clear h3 h4 h5 hs
  go_enter Tryz.func125, Tryz.ntmps125
  go_wp2_with fail
  refine HM.out.mono ?_
  rintro e w1 ⟨rfl, hw⟩
  subst w1
  go_wp2_with fail
  refine HB.out.mono ?_
  rintro e w1 ⟨rfl, hB1, ht1⟩
  have b1 := hB1.cell 1
  have f1 := hB1.frozen 1
  simp only [dkCells, List.getElem?_toArray, List.getElem?_cons_succ, List.getElem?_cons_zero] at b1
  have hne := own_ne H5.out HD.out (by decide)
  have HO := Lib.hid (H5.out.kept ht1.grown_by (.inr hne))
  have HB1 := Lib.hid hB1
  have hlt1 := hB1.lt
  have H41 := Lib.hid (H4.out.turns ht1 (fun e => Blk.ne_ H4.out HD.out (by decide) e))
  have hs1 : (wrC k s).size = 129 * 1 := wrC_size HS.out
  clear hB1 H5
  go_wp2_with fail
  have hbw := bytesW_facts w1.drew 5 s
  have hbsz : (bytesW w1.drew 5 s).heap.size = w1.heap.size + 1 := hbw.2.1
  have hSb : (bytesW w1.drew 5 s).cell? ⟨g, 1, none⟩ = some v := (hbw.1.cell (p := ⟨g, 1, none⟩) hlt1).trans b1
  have hld1 := hld w1.drew
  change (loadVar 166 ⟨w1.heap.size, 0, none⟩).run _ _ = _ at hld1
  clear hld
  have HBW := Lib.hid hbw
  clear hbw
  have hS0 : w1.drew.cell? ⟨g, 1, none⟩ = some v := b1
  refine R_begin (fun W => W.cell? ⟨g, 1, none⟩ = some v) (fun j => j == 15) (by kernel_rfl) ?_
  refine R_take 0 31 (v := ?_) rfl rfl (by rfl) (by kernel_rfl) (fun _ _ _ h => h) hS0 ?_ ?_
  rotate_left
  · intro w hSw; (try dsimp only at hSw); go_simp; (try with_reducible rfl)
  simp only [List.setIfInBounds_toArray, List.set_cons_zero, List.set_cons_succ]
  refine R_take 1 32 (v := ?_) rfl rfl (by rfl) (by kernel_rfl) (fun _ _ _ h => h) hS0 ?_ ?_
  rotate_left
  · intro w hSw; (try dsimp only at hSw); go_simp; (try with_reducible rfl)
  simp only [List.setIfInBounds_toArray, List.set_cons_zero, List.set_cons_succ]
  refine R_take 2 33 (v := ?_) rfl rfl (by rfl) (by kernel_rfl) (fun _ _ _ h => h) hS0 ?_ ?_
  rotate_left
  · intro w hSw; (try dsimp only at hSw); go_simp; (try with_reducible rfl)
  simp only [List.setIfInBounds_toArray, List.set_cons_zero, List.set_cons_succ]
  refine R_take 3 34 (v := ?_) rfl rfl (by rfl) (by kernel_rfl) (fun _ _ _ h => h) hS0 ?_ ?_
  rotate_left
  · intro w hSw; (try dsimp only at hSw); go_simp; (try with_reducible rfl)
  simp only [List.setIfInBounds_toArray, List.set_cons_zero, List.set_cons_succ]
  refine R_take 4 35 (v := ?_) rfl rfl (by rfl) (by kernel_rfl) (fun _ _ _ h => h) hS0 ?_ ?_
  rotate_left
  · intro w hSw; (try dsimp only at hSw); go_simp; (try with_reducible rfl)
  simp only [List.setIfInBounds_toArray, List.set_cons_zero, List.set_cons_succ]
  refine R_take 5 36 (v := ?_) rfl rfl (by rfl) (by kernel_rfl) (fun _ _ _ h => h) hS0 ?_ ?_
  rotate_left
  · intro w hSw; (try dsimp only at hSw); go_simp; (try with_reducible rfl)
  simp only [List.setIfInBounds_toArray, List.set_cons_zero, List.set_cons_succ]
  refine R_take 6 37 (v := ?_) rfl rfl (by rfl) (by kernel_rfl) (fun _ _ _ h => h) hS0 ?_ ?_
  rotate_left
  · intro w hSw; (try dsimp only at hSw); go_simp; (try with_reducible rfl)
  simp only [List.setIfInBounds_toArray, List.set_cons_zero, List.set_cons_succ]
  refine R_run 7 38 (v := .slice (some ⟨w1.heap.size, 0, none⟩) s.length (bytesC w1.drew 5 s)) (w' := bytesW w1.drew 5 s) rfl rfl (by rfl) (by kernel_rfl) (by go_simp) (fun _ => hSb) ?_
  simp only [List.setIfInBounds_toArray, List.set_cons_zero, List.set_cons_succ]
  refine R_take 8 39 (v := .pointer (some ⟨w1.heap.size, 0, none⟩)) rfl rfl (by rfl) (by kernel_rfl) (fun _ _ _ h => h) hSb (fun W _ => by go_simp) ?_
  simp only [List.setIfInBounds_toArray, List.set_cons_zero, List.set_cons_succ]
  refine R_run 9 40 (v := .agg (secC s)) (w' := bytesW w1.drew 5 s) rfl rfl (by rfl) (by kernel_rfl) (run_op_load _ _ ⟨w1.heap.size, 0, none⟩ rfl rfl hld1) (fun _ => hSb) ?_
  simp only [List.setIfInBounds_toArray, List.set_cons_zero, List.set_cons_succ]
  refine R_take 10 41 rfl rfl (by rfl) (by kernel_rfl) (fun _ _ _ h => h) hSb (fun W _ => run_op_build _ _ #[(0, .int .i64 k), (1, .agg (secC s))] rfl rfl (hbd W)) ?_
  simp only [List.setIfInBounds_toArray, List.set_cons_zero, List.set_cons_succ]
  have hSc : ((bytesW w1.drew 5 s).alloc (.cells (wrC k s) 168)).cell? ⟨g, 1, none⟩ = some v := (World.cell?_alloc_lt _ _ _ (show g < _ by omega)).trans hSb
  refine R_run 11 42 rfl rfl (by rfl) (by kernel_rfl) (run_op_buildSlice _ _ _ #[(0, .agg (wrC k s))] rfl rfl (hbs _)) (fun _ => hSc) ?_
  simp only [List.setIfInBounds_toArray, List.set_cons_zero, List.set_cons_succ]
  refine R_step 12 rfl (by rfl) (by kernel_rfl) ?_
  refine wp_append_own2 _ _ _ 162 rfl 0 168 i0 _ 129 136 Tryz.underlying162 hi.out hz0.out hz1.out hz2.out rfl (by decide) v d.loose.length (loos d.loose) rfl
    ((HO.out.kept (row := none) ⟨HBW.out.1.os, HBW.out.1.tape, HBW.out.1.output, HBW.out.1.size, fun b hb _ => HBW.out.1.block b hb⟩ (by cases v.ownBlock <;> simp)).alloc _)
    ⟨(bytesW w1.drew 5 s).heap.size, 0, none⟩ 1 1 (wrC k s).toList rfl (by simpa using hs1) (fun j u hu => ?_) (wrC_one k s) (by unfold maxLen; omega) (by omega) (Nat.zero_le _) (fun v6 w6 hown hgrow hwhere => ?_)
  · rw [show (⟨(bytesW w1.drew 5 s).heap.size, 0, none⟩ : Addr).add j = ⟨(bytesW w1.drew 5 s).heap.size, j, none⟩ by unfold Addr.add; split <;> simp_all]
    exact ((Blk.new _ _ _).cell j).trans (by simpa using hu)
  obtain ⟨g6, c6, rfl⟩ := own_form hown
  have hB6 := ((HB1.out.drew.below HBW.out.1 hlt1).alloc (.cells (wrC k s) 168)).grown hgrow (fun e => hne e.symm)
  have hS6 : w6.cell? ⟨g, 1, none⟩ = some v := hB6.cell 1
  refine ⟨fun _ => hS6, R_put 43 rfl ?_⟩
  simp only [List.setIfInBounds_toArray, List.set_cons_zero, List.set_cons_succ]
  refine R_run 13 44 (v := .pointer (some ⟨g, 0, none⟩)) (w' := w6) rfl rfl (by rfl) (by kernel_rfl) (by go_simp) (fun _ => hS6) ?_
  simp only [List.setIfInBounds_toArray, List.set_cons_zero, List.set_cons_succ]
  refine R_run 14 45 (v := .pointer (some ⟨g, 1, none⟩)) (w' := w6) rfl rfl (by rfl) (by kernel_rfl) (by go_simp) (fun _ => hS6) ?_
  simp only [List.setIfInBounds_toArray, List.set_cons_zero, List.set_cons_succ]
  refine R_store 15 (n := .skip) (w' := w6.setCell ⟨g, 1, none⟩ (.slice (some ⟨g6, 0, none⟩) (d.loose.length + 1) c6)) rfl rfl (by rfl) (by kernel_rfl) ?_ (.inl rfl) (fun h => absurd h (by decide)) ?_
  · have f6 := hB6.frozen 1
    go_simp
  refine R_done (by kernel_rfl) ?_ _
  have hB7 := hB6.set_ 1 (.slice (some ⟨g6, 0, none⟩) (d.loose.length + 1) c6)
  have hA7 := ((((H41.out.drew.below HBW.out.1 H41.out.lt).alloc (.cells (wrC k s) 168)).grown hgrow (fun e => own_ne HO.out H41.out (by decide) e.symm)).far (p := ⟨g, 1, none⟩) (fun e => Blk.ne_ H41.out HB1.out (by decide) e) (.slice (some ⟨g6, 0, none⟩) (d.loose.length + 1) c6))
  have hg6 : g6 ≠ g := fun e => own_ne hown hB6 (by decide) (by rw [e]; rfl)
  have hO7 := hown.kept (grown_set w6 ⟨g, 1, none⟩ (.slice (some ⟨g6, 0, none⟩) (d.loose.length + 1) c6)) (.inr (fun e => hg6 (by simpa [Value.ownBlock] using e)))
  have ht6 : Turns F F w w6 := (((((ht1.wider (F := F) (fun b hb => (h6 b).2 (.inl hb)) (fun b hb => .inl hb)).drew).next HBW.out.1).alloc (.cells (wrC k s) 168)).grown hgrow (fun k hk => .inl ((h6 k).2 (.inr (.inr hk)))))
  have ht7 := ht6.setCell (p := ⟨g, 1, none⟩) (.inl ((h6 g).2 (.inl rfl))) (.slice (some ⟨g6, 0, none⟩) (d.loose.length + 1) c6)
  have hg6w : F g6 ∨ w.heap.size ≤ g6 := by
    rcases hwhere g6 rfl with hk | hk
    · exact .inl ((h6 g6).2 (.inr (.inr hk)))
    · refine .inr ?_
      have := ht1.size
      simp only [World.size_alloc] at hk
      omega
  have HB7 := Lib.hid hB7
  have HA7 := Lib.hid hA7
  have HO7 := Lib.hid hO7
  have HLA := Lib.hid (loos_append d.loose k s)
  have HWC := Lib.hid (wrC_list k s)
  have H6 := Lib.hid h6
  clear hB7 hA7 hO7 ht6 hown hgrow hwhere hB6 hS6 hSb hSc hbsz hne b1 f1 hbd hbs hat hcv hld1 h6 hs1 hS0
  generalize w6.setCell ⟨g, 1, none⟩ (.slice (some ⟨g6, 0, none⟩) (d.loose.length + 1) c6) = w7 at *
  go_wp2_with fail
  go_ret
  refine ⟨fun b => b = g ∨ b = a ∨ b = g6, rfl, ⟨Sp.Dk.put_wf h1 hk HS.out, ?_, a, _, HB7.out, HA7.out, ?_, fun b => ?_⟩, ⟨ht7.os, ht7.tape, ht7.output, ht7.size, ht7.block, ?_⟩⟩
  · simp only [Sp.Dk.put, Sp.burn]
    split <;> omega
  · rw [HWC.out, ← HLA.out] at HO7
    simpa [Sp.Dk.put] using HO7.out
  · simp [Value.ownBlock, eq_comm]
  · rintro b (rfl | rfl | rfl)
    · exact .inl ((H6.out b).2 (.inl rfl))
    · exact .inl ((H6.out b).2 (.inr (.inl rfl)))
    · exact hg6w
end Go.Proofs.YtclpmkinjjhncaaGreat

/- The walks of package disk: Sync. -/
namespace Go.Proofs.YtclpmkinjjhncaaGreat
open Go.RowKit

theorem secs_append (a b : List Sp.Bs) : secs (a ++ b) = secs a ++ secs b := by simp [secs]
theorem secs_length {l : List Sp.Bs} (h : ∀ s ∈ l, s.length = 128) : (secs l).length = l.length * 128 :=
  flatten_length_all bcs 128 l (fun x hx => by rw [bcs_length]; exact h x hx)
theorem partRow_secs {l : List Sp.Bs} (h : ∀ s ∈ l, s.length = 128) {k : Nat} (hk : k < l.length) {s : Sp.Bs} (hs : s.length = 128) :
    partRow (secs l).toArray (k * 128) (secC s).toList = (secs (l.set k s)).toArray := by
  have e : l = l.take k ++ l[k] :: l.drop (k + 1) := by rw [← List.drop_eq_getElem_cons hk, List.take_append_drop]
  have h1 : (secs (l.take k)).length = k * 128 := by
    rw [secs_length (fun x hx => h x (List.mem_of_mem_take hx)), List.length_take, Nat.min_eq_left (by omega)]
  have h2 : (bcs l[k]).length = 128 := by rw [bcs_length]; exact h _ (List.getElem_mem hk)
  have h3 : (secC s).toList.length = 128 := by simp [secC, hs]
  have e2 : secs l = secs (l.take k) ++ (bcs l[k] ++ secs (l.drop (k + 1))) := by
    conv => lhs; rw [e]
    rw [secs_append]; rfl
  unfold partRow
  rw [List.toList_toArray, e2, List.take_left' h1, show k * 128 + (secC s).toList.length = (secs (l.take k)).length + 128 by omega, ← List.drop_drop, List.drop_left, List.drop_left' h2, List.set_eq_take_append_cons_drop, if_pos hk]
  simp [secs, secC]

theorem loos_app (a b : List (Nat × Sp.Bs)) : loos (a ++ b) = loos a ++ loos b := by simp [loos]
theorem loos_at {l : List (Nat × Sp.Bs)} (h : ∀ x ∈ l, x.2.length = 128) {i : Nat} (hi : i < l.length) : ((loos l).drop (i * 129)).take 129 = (wrC l[i].1 l[i].2).toList := by
  have e : l = l.take i ++ l[i] :: l.drop (i + 1) := by rw [← List.drop_eq_getElem_cons hi, List.take_append_drop]
  have h1 : (loos (l.take i)).length = i * 129 := by
    unfold loos
    rw [flatten_length_all _ 129 _ (fun x hx => by simp [h x (List.mem_of_mem_take hx)]), List.length_take, Nat.min_eq_left (by omega)]
  have h2 : (wrC l[i].1 l[i].2).toList.length = 129 := by simp [wrC, h _ (List.getElem_mem hi)]
  have e2 : loos l = loos (l.take i) ++ ((wrC l[i].1 l[i].2).toList ++ loos (l.drop (i + 1))) := by
    conv => lhs; rw [e]
    rw [loos_app, wrC_list]; rfl
  rw [e2, List.drop_left' h1, List.take_left' h2]

theorem wrC_cell0 (k : Nat) (s : Sp.Bs) : (wrC k s)[0]? = some (.int .i64 (k : Int)) := by simp [wrC]
theorem wrC_cell (k : Nat) (s : Sp.Bs) (j : Nat) : (wrC k s)[1 + j]? = (secC s)[j]? := by simp [wrC, secC, Nat.add_comm 1 j]

theorem partRow_all {Z : Array Value} {cs : List Value} (h : Z.size = cs.length) : partRow Z 0 cs = cs.toArray := by
  simp [partRow, List.drop_eq_nil_of_le, h]

theorem wr_agg : (Tryz.prog.info? 168).map (·.size) = some 129 := by kernel_rfl
theorem sec_agg : (Tryz.prog.info? 166).map (·.size) = some 128 := by kernel_rfl

/-- The element's load. -/
theorem wr_load {w : World} {b base n c : Nat} {l : List (Nat × Sp.Bs)} (h : w.ownsRow base 168 129 (.slice (some ⟨b, 0, none⟩) n c) l.length (loos l)) (hl : ∀ x ∈ l, x.2.length = 128) {i : Nat} (hi : i < l.length) :
    (loadVar 168 ⟨b, i * 129, none⟩).run Tryz.prog w = .ok (.agg (wrC l[i].1 l[i].2)) w := by
  have hsz := wrC_size (k := l[i].1) (hl _ (List.getElem_mem hi))
  have := run_loadVar_part (P := Tryz.prog) w ⟨b, i * 129, none⟩ 168 (wrC l[i].1 l[i].2).toList _ (fun j v hv => ?_) Tryz.underlying168 rfl (by rw [wr_agg]; simp [hsz])
  · rw [this]
  · have hj : j < 129 := by have := (List.getElem?_eq_some_iff.1 hv).1; simp [hsz] at this; exact this
    rw [show (⟨b, i * 129, none⟩ : Addr).add j = (⟨b, 0, none⟩ : Addr).add (i * 129 + j) by unfold Addr.add; split <;> simp_all]
    refine h.cells (g := b) rfl _ _ ?_
    rw [← loos_at hl hi, List.getElem?_take, if_pos hj, List.getElem?_drop] at hv
    exact hv

set_option maxRecDepth 100000 in
set_option maxHeartbeats 4000000 in
theorem disk_sync {F : Foot} {w : World} {g : Nat} {d : Sp.Dk} (h : IsDk F w g d) (hf : d.fuse ≠ 0) (hl : d.loose.length ≤ 1000000) :
    Calls Tryz.prog 73 #[.pointer (some ⟨g, 0, none⟩)] w fun e w' => ∃ F', e = .returned (.int .i64 0) ∧ IsDk F' w' g d.synced ∧ d.synced.loose = [] ∧ Turns F F' w w' := by
  obtain ⟨h1, h2, a, v, h3, h4, h5, h6⟩ := h
  have HM := Lib.hid (disk_may h3 h1.some_ hf)
  have HB := Lib.hid (disk_burns h3 h2)
  have H5 := Lib.hid h5
  have H4 := Lib.hid h4
  have HD := Lib.hid h3
  have hlt := h3.lt
  have hwr := fun x hx => (h1.loose x hx).2
  have hne := own_ne h5 h3 (by decide)
  obtain ⟨p, c, rfl⟩ : ∃ p c, v = .slice p d.loose.length c := by
    rcases h5.2 with ⟨rfl, e⟩ | ⟨b, cap, _, e, _⟩
    · exact ⟨none, 0, by rw [e]⟩
    · exact ⟨_, _, e⟩
  clear h3 h4 h5
  go_enter Tryz.func73, Tryz.ntmps73
  go_wp2_with fail
  refine HM.out.mono ?_
  rintro e w1 ⟨rfl, hw⟩
  subst w1
  go_wp2_with fail
  refine HB.out.mono ?_
  rintro e w1 ⟨rfl, hB1, ht1⟩
  have b1 := hB1.cell 1
  have b0 := hB1.cell 0
  simp only [dkCells, List.getElem?_toArray, List.getElem?_cons_succ, List.getElem?_cons_zero] at b0 b1
  have HO := Lib.hid (H5.out.kept ht1.grown_by (.inr hne))
  have HB1 := Lib.hid hB1
  have hlt1 := hB1.lt
  have H41 := Lib.hid (H4.out.turns ht1 (fun e => Blk.ne_ H4.out HD.out (by decide) e))
  clear hB1 H5
  go_wp2_with fail
  have HZ : Hid (∃ Z : Array Value, (Value.agg (#[.int .i64 0] ++ Array.replicate 128 (.int .u8 0))).cells = Z ∧ Z.size = 129) := ⟨_, rfl, rfl⟩
  obtain ⟨Z, hZ, hZs⟩ := HZ.out
  have hZ' := Lib.hid hZ
  have hZs' := Lib.hid hZs
  clear hZ hZs HZ
  obtain ⟨i0, hi0, hz00, hz10, hz20⟩ := info_parts wr_info
  have hi := Lib.hid hi0
  have hz0 := Lib.hid hz00
  clear hi0 hz00 hz10 hz20
  have HWF := Lib.hid hwr
  have HSU := Lib.hid h1.sure
  have HLK := Lib.hid (fun x hx => (h1.loose x hx).1)
  have hc0 := c
  clear hwr
  go_loopw [5, 18] (fun _ i wr => ∃ k : Nat, k ≤ d.loose.length ∧ i = .int .i64 k ∧ Blk wr a 166 (secs (Sp.lay (d.loose.take k) d.sure)).toArray ∧ Turns (only a) (only a) w1 wr) (fun _ i _ => d.loose.length - (intOf i).toNat)
  case atStart => exact ⟨0, by omega, rfl, by simpa [Sp.lay] using H41.out, Turns.refl _ _⟩
  case round =>
    obtain ⟨k, hk, rfl, hA, ht⟩ := hrel
    have hga : g ≠ a := fun e => Blk.ne_ HB1.out H41.out (by decide) e
    have HBr := HB1.out.turns ht hga
    have r0 := HBr.cell 0
    have r1 := HBr.cell 1
    have rf1 := HBr.frozen 1
    simp only [dkCells, List.getElem?_toArray, List.getElem?_cons_succ, List.getElem?_cons_zero] at r0 r1
    have HBR := Lib.hid HBr
    have HA := Lib.hid hA
    clear HBr hA b0 b1
    by_cases hlt : k < d.loose.length
    · have hna := own_ne HO.out H41.out (by decide)
      obtain ⟨b, rfl⟩ : ∃ b, p = some ⟨b, 0, none⟩ := by
        rcases HO.out.2 with ⟨e, e2⟩ | ⟨b, cap, _, e, _⟩
        · omega
        · injection e with e; exact ⟨b, e⟩
      have hOr := HO.out.kept (w' := wr) (row := some a) ht.grown_by (.inr hna)
      have hld := wr_load hOr HWF.out hlt
      have hsx := HWF.out _ (List.getElem_mem hlt)
      have hkx := HLK.out _ (List.getElem_mem hlt)
      have htk : Hid (Sp.lay (d.loose.take (k + 1)) d.sure = (Sp.lay (d.loose.take k) d.sure).set d.loose[k].1 d.loose[k].2) := by
        rw [List.take_succ_eq_append_getElem hlt, Sp.lay_append]; rfl
      have HLD := Lib.hid hld
      have HSX := Lib.hid hsx
      clear hld hsx hOr
      generalize d.loose[k] = x at *
      obtain ⟨xk, xs⟩ := x
      dsimp only at *
      have HZS := Lib.hid (run_storeVar_part (P := Tryz.prog) (wr.alloc (.cells Z 168)) wr.heap.size 0 168 168 Z (wrC xk xs) (heap_alloc_new _ _) (by rw [wr_agg, wrC_size HSX.out]) (by rw [wrC_size HSX.out, hZs'.out]; exact Nat.le_refl _) (Array.all_eq_true_iff_forall_mem.2 fun u hu => wrC_one xk xs u (by simpa using hu)))
      rw [partRow_all (by rw [hZs'.out]; simpa using (wrC_size HSX.out).symm), World.setRow_alloc_new] at HZS
      go_wp2_with (first
        | ((with_reducible refine wpList_run (v := .agg (wrC xk xs)) (w' := wr) 21 rfl rfl ?_ ?_); exact run_op_load _ _ ⟨b, k * 129, none⟩ rfl rfl HLD.out; simp only [List.setIfInBounds_toArray, List.set_cons_zero, List.set_cons_succ])
        | ((with_reducible refine wpList_run (v := .pointer (some ⟨wr.heap.size, 0, none⟩)) (w' := wr.alloc (.cells Z 168)) 5 rfl rfl ?_ ?_); exact run_op_alloc _ i0 _ Z rfl hi.out hz0.out hZ'.out; simp only [List.setIfInBounds_toArray, List.set_cons_zero, List.set_cons_succ])
        | ((with_reducible refine wpList_skip (w' := wr.alloc (.cells (wrC xk xs) 168)) rfl rfl ?_ ?_); exact run_op_store _ _ _ ⟨wr.heap.size, 0, none⟩ _ rfl rfl rfl HZS.out))
      have hnew : wr.heap.size ≠ a := by have := HA.out.lt; omega
      have hB5 := Blk.new wr 168 (wrC xk xs)
      have hS0 : ((wr.alloc (.cells (wrC xk xs) 168)).drew.cell? ⟨g, 0, none⟩ = some (.slice (some ⟨a, 0, none⟩) d.sure.length d.sure.length)) ∧ ((wr.alloc (.cells (wrC xk xs) 168)).drew.cell? ⟨wr.heap.size, 0, none⟩ = some (.int .i64 (xk : Int))) ∧
          ((loadVar 166 ⟨wr.heap.size, 1, none⟩).run Tryz.prog (wr.alloc (.cells (wrC xk xs) 168)).drew = .ok (.agg (secC xs)) (wr.alloc (.cells (wrC xk xs) 168)).drew) := by
        refine ⟨((HBR.out.alloc (.cells (wrC xk xs) 168)).cell 0).trans (by simp [dkCells]), (hB5.cell 0).trans (wrC_cell0 xk xs), ?_⟩
        refine (run_loadVar_part (P := Tryz.prog) (wr.alloc (.cells (wrC xk xs) 168)).drew ⟨wr.heap.size, 1, none⟩ 166 (secC xs).toList _ (fun j v hv => ?_) Tryz.underlying166 rfl (by rw [sec_agg]; simp [secC_size HSX.out])).trans (by rw [Array.toArray_toList])
        rw [show (⟨wr.heap.size, 1, none⟩ : Addr).add j = ⟨wr.heap.size, 1 + j, none⟩ by unfold Addr.add; split <;> simp_all]
        exact (hB5.cell (1 + j)).trans ((wrC_cell xk xs j).trans (by simpa using hv))
      refine R_begin (fun W => (W.cell? ⟨g, 0, none⟩ = some (.slice (some ⟨a, 0, none⟩) d.sure.length d.sure.length)) ∧ (W.cell? ⟨wr.heap.size, 0, none⟩ = some (.int .i64 (xk : Int))) ∧
          ((loadVar 166 ⟨wr.heap.size, 1, none⟩).run Tryz.prog W = .ok (.agg (secC xs)) W)) (fun j => j == 9) (by kernel_rfl) ?_
      refine R_take 0 22 (v := ?_) rfl rfl (by rfl) (by kernel_rfl) (fun _ _ _ h => h) hS0 ?_ ?_
      rotate_left
      · intro w hSw; obtain ⟨hS1, hS2, hS3⟩ := hSw; clear hS3; go_simp; (try with_reducible rfl)
      simp only [List.setIfInBounds_toArray, List.set_cons_zero, List.set_cons_succ]
      refine R_take 1 23 (v := ?_) rfl rfl (by rfl) (by kernel_rfl) (fun _ _ _ h => h) hS0 ?_ ?_
      rotate_left
      · intro w hSw; obtain ⟨hS1, hS2, hS3⟩ := hSw; clear hS3; go_simp; (try with_reducible rfl)
      simp only [List.setIfInBounds_toArray, List.set_cons_zero, List.set_cons_succ]
      refine R_take 2 24 (v := ?_) rfl rfl (by rfl) (by kernel_rfl) (fun _ _ _ h => h) hS0 ?_ ?_
      rotate_left
      · intro w hSw; obtain ⟨hS1, hS2, hS3⟩ := hSw; clear hS3; go_simp; (try with_reducible rfl)
      simp only [List.setIfInBounds_toArray, List.set_cons_zero, List.set_cons_succ]
      refine R_take 3 25 (v := ?_) rfl rfl (by rfl) (by kernel_rfl) (fun _ _ _ h => h) hS0 ?_ ?_
      rotate_left
      · intro w hSw; obtain ⟨hS1, hS2, hS3⟩ := hSw; clear hS3; go_simp; (try with_reducible rfl)
      simp only [List.setIfInBounds_toArray, List.set_cons_zero, List.set_cons_succ]
      refine R_take 4 26 (v := ?_) rfl rfl (by rfl) (by kernel_rfl) (fun _ _ _ h => h) hS0 ?_ ?_
      rotate_left
      · intro w hSw; obtain ⟨hS1, hS2, hS3⟩ := hSw; clear hS3; go_simp; (try with_reducible rfl)
      simp only [List.setIfInBounds_toArray, List.set_cons_zero, List.set_cons_succ]
      refine R_take 5 27 (v := ?_) rfl rfl (by rfl) (by kernel_rfl) (fun _ _ _ h => h) hS0 ?_ ?_
      rotate_left
      · intro w hSw; obtain ⟨hS1, hS2, hS3⟩ := hSw; clear hS3; go_simp; (try with_reducible rfl)
      simp only [List.setIfInBounds_toArray, List.set_cons_zero, List.set_cons_succ]
      refine R_take 6 28 (v := ?_) rfl rfl (by rfl) (by kernel_rfl) (fun _ _ _ h => h) hS0 ?_ ?_
      rotate_left
      · intro w hSw; obtain ⟨hS1, hS2, hS3⟩ := hSw; clear hS3; go_simp; (try with_reducible rfl)
      simp only [List.setIfInBounds_toArray, List.set_cons_zero, List.set_cons_succ]
      refine R_take 7 29 (v := .agg (secC xs)) rfl rfl (by rfl) (by kernel_rfl) (fun _ _ _ h => h) hS0 (fun W hW => run_op_load _ _ ⟨wr.heap.size, 1, none⟩ rfl rfl hW.2.2) ?_
      simp only [List.setIfInBounds_toArray, List.set_cons_zero, List.set_cons_succ]
      refine R_take 8 30 (v := ?_) rfl rfl (by rfl) (by kernel_rfl) (fun _ _ _ h => h) hS0 ?_ ?_
      rotate_left
      · intro w hSw; obtain ⟨hS1, hS2, hS3⟩ := hSw; clear hS3; go_simp; (try with_reducible rfl)
      simp only [List.setIfInBounds_toArray, List.set_cons_zero, List.set_cons_succ]
      have HAn := (HA.out.alloc (.cells (wrC xk xs) 168)).drew
      have hlen : (Sp.lay (d.loose.take k) d.sure).length = d.sure.length := Sp.lay_length _ _
      have hall : ∀ s ∈ Sp.lay (d.loose.take k) d.sure, s.length = 128 := Sp.lay_all HSU.out (fun x hx => HWF.out x (List.mem_of_mem_take hx))
      have hst := run_storeVar_part (P := Tryz.prog) (wr.alloc (.cells (wrC xk xs) 168)).drew a (xk * 128) 166 166 (secs (Sp.lay (d.loose.take k) d.sure)).toArray (secC xs) HAn (by rw [sec_agg, secC_size HSX.out])
        (by rw [secC_size HSX.out, List.size_toArray, secs_length hall, hlen]; omega) (Array.all_eq_true_iff_forall_mem.2 fun u hu => by
          obtain ⟨b, _, rfl⟩ := List.mem_map.1 (show u ∈ bcs xs by simpa [secC] using hu); rfl)
      rw [partRow_secs hall (by omega) HSX.out, ← htk.out] at hst
      have hA2 := HAn.setRow (secs (Sp.lay (d.loose.take (k + 1)) d.sure)).toArray
      refine R_store 9 (n := .skip) rfl rfl (by rfl) (by kernel_rfl) (run_op_store _ _ _ ⟨a, xk * 128, none⟩ _ rfl rfl rfl hst) (.inl rfl) (fun h => absurd h (by decide)) ?_
      refine R_done (by kernel_rfl) ?_ _
      have hT2 := ((ht.alloc (.cells (wrC xk xs) 168)).drew).setRow (g := a) (.inl rfl) (secs (Sp.lay (d.loose.take (k + 1)) d.sure)).toArray
      have HA2 := Lib.hid hA2
      have HT2 := Lib.hid hT2
      clear hA2 hT2 hst hS0 HAn hall hlen hB5
      generalize (wr.alloc (.cells (wrC xk xs) 168)).drew.setRow a (secs (Sp.lay (d.loose.take (k + 1)) d.sure)).toArray = w5 at *
      go_wp2_with fail
      go_roundw
      case rel => exact ⟨k + 1, by omega, by go_num, HA2.out, HT2.out⟩
      case measure => simp [intOf]; omega
    · obtain rfl : k = d.loose.length := by omega
      rw [List.take_length] at HA
      go_wp2_with fail
      go_ret
      have hsl : d.synced.sure.length = d.sure.length := by simp [Sp.Dk.synced, Sp.Dk.view]
      have ht7 : Turns F F w (wr.setCell ⟨g, 1, none⟩ (.slice none 0 0)) :=
        ((ht1.wider (F := F) (fun b hb => (h6 b).2 (.inl hb)) (fun b hb => .inl hb)).trans (ht.wider (F := F) (fun b hb => (h6 b).2 (.inr (.inl hb))) (fun b hb => .inl hb))).setCell (p := ⟨g, 1, none⟩) (.inl ((h6 g).2 (.inl rfl))) (.slice none 0 0)
      refine ⟨fun b => b = g ∨ b = a, rfl, ⟨Sp.Dk.synced_wf h1, ?_, a, .slice none 0 0, ?_, HA.out.far (p := ⟨g, 1, none⟩) (fun e => hga e.symm) _, World.ownsRow_nil _ _ _ _, fun b => by simp [Value.ownBlock]⟩, rfl, ⟨ht7.os, ht7.tape, ht7.output, ht7.size, ht7.block, ?_⟩⟩
      · simp only [Sp.Dk.synced, Sp.burn]
        split <;> omega
      · rw [hsl]
        exact HBR.out.set_ 1 (.slice none 0 0)
      · rintro b (rfl | rfl)
        · exact .inl ((h6 b).2 (.inl rfl))
        · exact .inl ((h6 b).2 (.inr (.inl rfl)))
end Go.Proofs.YtclpmkinjjhncaaGreat

/- The walks of package disk: Read, where nothing is loose. -/
namespace Go.Proofs.YtclpmkinjjhncaaGreat
open Go.RowKit

theorem backward_any (p : Option Addr) (n c : Nat) (w : World) :
    Calls Tryz.prog 136 #[.slice p n c] w fun e w' => e = .returned (.func (.func 191) #[] #[.pointer (some ⟨w.heap.size, 0, none⟩)]) ∧ w' = w.alloc (.cells #[.slice p n c] 162) := by
  go_enter Tryz.func136, Tryz.ntmps136
  go_wp2_with fail
  go_ret
  exact ⟨rfl, rfl⟩

theorem secs_at {l : List Sp.Bs} (h : ∀ s ∈ l, s.length = 128) {i : Nat} (hi : i < l.length) {j : Nat} (hj : j < 128) : (secs l)[i * 128 + j]? = (bcs l[i])[j]? := by
  have e : l = l.take i ++ l[i] :: l.drop (i + 1) := by rw [← List.drop_eq_getElem_cons hi, List.take_append_drop]
  have h1 : (secs (l.take i)).length = i * 128 := by
    rw [secs_length (fun x hx => h x (List.mem_of_mem_take hx)), List.length_take, Nat.min_eq_left (by omega)]
  have h2 : (bcs l[i]).length = 128 := by rw [bcs_length]; exact h _ (List.getElem_mem hi)
  have e2 : secs l = secs (l.take i) ++ (bcs l[i] ++ secs (l.drop (i + 1))) := by
    conv => lhs; rw [e]
    rw [secs_append]; rfl
  rw [e2, List.getElem?_append_right (by omega), h1, Nat.add_sub_cancel_left, List.getElem?_append_left (by omega)]

theorem putObj_other (w : World) (D : Nat) (o : Obj) (b : Nat) (h : b ≠ D) : (w.putObj D o).heap[b]? = w.heap[b]? := World.putObj_heap_other h

set_option maxRecDepth 100000 in
set_option maxHeartbeats 2000000 in
theorem backward_none {n : Nat} {w : World} {B : Nat} {p : Option Addr} {c : Nat} (hc : w.cell? ⟨B, 0, none⟩ = some (.slice p 0 c)) (hB : B < w.heap.size) :
    SeqStopsA Fence.wide n Tryz.prog 191 #[.pointer (some ⟨B, 0, none⟩)] (fun _ : Empty => #[undef, undef]) (fun _ => True) (fun _ => False) 0 w := by
  intro l J Jx W hW hJ hJx hY h0
  have hcW := (hW.cell (p := ⟨B, 0, none⟩) hB).trans hc
  refine callsIn_wide.2 ?_
  clear hY hJ hJx
  simp only [List.append_toArray, List.cons_append, List.nil_append]
  go_enter Tryz.func191, Tryz.ntmps191
  go_wp2_with fail
  go_loop [3] (fun i => i = .int .i64 (-1)) (fun _ => 0)
  case atStart => rfl
  case round =>
    subst hrel
    go_wp2_with fail
    go_end0
    exact ⟨⟨_, rfl⟩, [], h0⟩

set_option maxRecDepth 100000 in
set_option maxHeartbeats 4000000 in
theorem disk_read {F : Foot} {w : World} {g : Nat} {d : Sp.Dk} (h : IsDk F w g d) (hf : d.fuse ≠ 0) (hl : d.loose = []) (k : Nat) (hk : k < d.sure.length) :
    Calls Tryz.prog 74 #[.pointer (some ⟨g, 0, none⟩), .int .i64 k] w fun e w' => e = .returned (.tuple #[str d.sure[k], .int .i64 0]) ∧ Below w.heap.size w w' := by
  obtain ⟨h1, h2, a, v, h3, h4, h5, h6⟩ := h
  have HM := Lib.hid fun W (h : Blk W g 164 (dkCells (.slice (some ⟨a, 0, none⟩) d.sure.length d.sure.length) v d.fuse)) => disk_may h h1.some_ hf
  have HD := Lib.hid h3
  have H4 := Lib.hid h4
  have hlt := h3.lt
  have hs := h1.sure _ (List.getElem_mem hk)
  have HS := Lib.hid hs
  obtain ⟨p, c, rfl⟩ : ∃ p c, v = .slice p 0 c := by
    rw [hl] at h5
    rcases h5.2 with ⟨rfl, e⟩ | ⟨b, cap, _, e, _⟩
    · exact ⟨none, 0, rfl⟩
    · exact ⟨_, _, e⟩
  have d1 : decide ((k : Int) < 0) = false := by simp
  have d2 : decide ((d.sure.length : Int) ≤ k) = false := by rw [decide_eq_false_iff_not]; omega
  clear h3 h4 h5 hl hs
  refine (callsIn_wide (n := 3)).1 ?_
  refine callsIn_of_wp_marks Tryz.func74 rfl trivial ?_ rfl
  rw [wpIn_wide]
  simp only [Tryz.ntmps74, List.size_toArray, List.length_cons, List.length_nil, Nat.reduceAdd, Nat.reduceSub, Array.replicate_succ, Array.replicate_zero, List.push_toArray, List.append_toArray, List.nil_append, List.cons_append]
  go_wp2_with fail
  obtain ⟨W0, hW0⟩ : ∃ W0, ((w.alloc (.cells #[.int .i64 k] 3)).alloc (.cells #[.string ⟨#[]⟩] 9)).alloc (.cells #[.int .i64 0] 37) = W0 := ⟨_, rfl⟩
  have b3 : Blk W0 w.heap.size 3 #[.int .i64 k] := by rw [← hW0]; exact ((Blk.new w _ _).alloc _).alloc _
  have b4 : Blk W0 (w.heap.size + 1) 9 #[.string ⟨#[]⟩] := by
    rw [← hW0]
    have := (Blk.new (w.alloc (.cells #[.int .i64 k] 3)) 9 #[.string ⟨#[]⟩]).alloc (.cells #[.int .i64 0] 37)
    rwa [World.size_alloc] at this
  have b5 : Blk W0 (w.heap.size + 1 + 1) 37 #[.int .i64 0] := by
    rw [← hW0]
    have := Blk.new ((w.alloc (.cells #[.int .i64 k] 3)).alloc (.cells #[.string ⟨#[]⟩] 9)) 37 #[.int .i64 0]
    rwa [World.size_alloc, World.size_alloc] at this
  have hbw0 : Below w.heap.size w W0 := by rw [← hW0]; exact (((Below.refl _ w).alloc (Nat.le_refl _) _).alloc (by simp) _).alloc (by simp; omega) _
  have hs0 : W0.heap.size = w.heap.size + 3 := by rw [← hW0]; simp
  rw [hW0]
  clear hW0
  have HS0 := Lib.hid hs0
  have hs0' : w.heap.size + 3 ≤ W0.heap.size := by omega
  clear hs0
  have hD0 := HD.out.below hbw0 hlt
  have hA0 := H4.out.below hbw0 H4.out.lt
  refine (HM.out _ hD0).mono ?_
  rintro e w1 ⟨rfl, hw⟩
  subst w1
  have c3 := b3.cell 0
  have c0 := hD0.cell 0
  have c1 := hD0.cell 1
  simp only [dkCells, List.getElem?_toArray, List.getElem?_cons_succ, List.getElem?_cons_zero] at c0 c1 c3
  have B3 := Lib.hid b3
  have B4 := Lib.hid b4
  have B5 := Lib.hid b5
  have HD0 := Lib.hid hD0
  have HA0 := Lib.hid hA0
  clear b3 b4 b5 hD0 hA0
  go_wp2_with fail
  go_quiet (fail)
  go_wp2_with fail
  refine (backward_any _ _ _ _).mono ?_
  rintro e w2 ⟨rfl, rfl⟩
  go_wp2_with fail
  have hbq : Below w.heap.size w (W0.drewN nq) := below_drewN' hbw0 nq
  have hBox := Blk.new (W0.drewN nq) 162 #[.slice p 0 c]
  have HB3 := Lib.hid ((B3.out.drewN nq).alloc (.cells #[.slice p 0 c] 162))
  have HB4 := Lib.hid ((B4.out.drewN nq).alloc (.cells #[.slice p 0 c] 162))
  have HB5 := Lib.hid ((B5.out.drewN nq).alloc (.cells #[.slice p 0 c] 162))
  have HDq := Lib.hid ((HD0.out.drewN nq).alloc (.cells #[.slice p 0 c] 162))
  have HAq := Lib.hid ((HA0.out.drewN nq).alloc (.cells #[.slice p 0 c] 162))
  have hbw1 := hbq.alloc hbq.size (.cells #[.slice p 0 c] 162)
  have hcB := hBox.cell 0
  have hBlt := hBox.lt
  have hsz : w.heap.size + 3 < ((W0.drewN nq).alloc (.cells #[.slice p 0 c] 162)).heap.size := by simp; omega
  rw [show (W0.drewN nq).heap.size = W0.heap.size from rfl] at hcB hBlt
  clear hBox hbq B3 B4 B5 HD0 HA0 c0 c1 c3
  generalize (W0.drewN nq).alloc (.cells #[.slice p 0 c] 162) = W1 at *
  rw [← wpIn_wide (n := 3)]
  refine wpIn_rangeFunc_ownF (α := Empty) rfl (by decide) (gf := 191) (lb := #[.pointer (some ⟨W0.heap.size, 0, none⟩)]) rfl trivial (enters_of Tryz.func191 (by kernel_rfl) rfl)
    (seqStopsA_iff.1 (backward_none hcB hBlt)) (fun h k => walksK_t h k) walksK_b (Below.refl _ _) (fun x => x.elim) (fun _ W => Below W1.heap.size W1 W) (fun _ _ _ => False) (ownFrom_below (Nat.le_refl _) (Nat.le_refl _)) (fun _ _ _ _ _ h => h.elim) (Below.refl _ _) (fun x => x.elim) (fun _ x => x.elim) (fun _ _ x => x.elim) ?done (fun _ _ _ _ _ _ h => h.elim)
  case done =>
    intro D xs W hD _ hI hK
    have hB3 := HB3.out.below hI (by omega)
    have hB4 := HB4.out.below hI (by omega)
    have hB5 := HB5.out.below hI (by omega)
    have hDW := HDq.out.below hI (by omega)
    have hAW := HAq.out.below hI HAq.out.lt
    have hbW := hbw1.trans (hI.mono hbw1.size)
    have HK := Lib.hid hK
    clear hI hK
    go_wp2_with fail
    have c3 := hB3.cell 0
    have c0 := hDW.cell 0
    simp only [dkCells, List.getElem?_toArray, List.getElem?_cons_zero] at c0 c3
    have hcv : (convert 102 9 (.slice (some ⟨a, k * 128, none⟩) 128 128)).run Tryz.prog W.drew = .ok (str d.sure[k]) W.drew := by
      refine run_bytes_back W.drew _ _ 5 a (k * 128) 128 128 d.sure[k] Tryz.underlying102 Tryz.underlying5 Tryz.underlying9 HS.out.symm (fun j hj => ?_)
      refine (hAW.cell (k * 128 + j)).trans ?_
      rw [List.getElem?_toArray]
      have := secs_at h1.sure hk (show j < 128 by rw [HS.out] at hj; exact hj)
      rw [this, bcs_at _ _ hj]
    have hS0 : (W.drew.cell? ⟨g, 0, none⟩ = some (.slice (some ⟨a, 0, none⟩) d.sure.length d.sure.length)) ∧ (W.drew.cell? ⟨w.heap.size, 0, none⟩ = some (.int .i64 k)) ∧
        ((convert 102 9 (.slice (some ⟨a, k * 128, none⟩) 128 128)).run Tryz.prog W.drew = .ok (str d.sure[k]) W.drew) := ⟨c0, c3, hcv⟩
    have HAW := Lib.hid hAW
    have HB4 := Lib.hid hB4
    have HB5 := Lib.hid hB5
    clear c0 c3 hcv hAW hB3 hDW hB4 hB5
    refine wp_region_noPanic ?_
    refine R_begin (fun W => (W.cell? ⟨g, 0, none⟩ = some (.slice (some ⟨a, 0, none⟩) d.sure.length d.sure.length)) ∧ (W.cell? ⟨w.heap.size, 0, none⟩ = some (.int .i64 k)) ∧
        ((convert 102 9 (.slice (some ⟨a, k * 128, none⟩) 128 128)).run Tryz.prog W = .ok (str d.sure[k]) W)) (fun j => j == 8 || j == 9) (by kernel_rfl) ?_
    refine R_take 0 39 (v := ?_) rfl rfl (by rfl) (by kernel_rfl) (fun _ _ _ h => h) hS0 ?_ ?_
    rotate_left
    · intro w hSw; obtain ⟨hS1, hS2, hS3⟩ := hSw; go_simp; (try with_reducible rfl)
    simp only [List.setIfInBounds_toArray, List.set_cons_zero, List.set_cons_succ]
    refine R_take 1 40 (v := ?_) rfl rfl (by rfl) (by kernel_rfl) (fun _ _ _ h => h) hS0 ?_ ?_
    rotate_left
    · intro w hSw; obtain ⟨hS1, hS2, hS3⟩ := hSw; go_simp; (try with_reducible rfl)
    simp only [List.setIfInBounds_toArray, List.set_cons_zero, List.set_cons_succ]
    refine R_take 2 41 (v := ?_) rfl rfl (by rfl) (by kernel_rfl) (fun _ _ _ h => h) hS0 ?_ ?_
    rotate_left
    · intro w hSw; obtain ⟨hS1, hS2, hS3⟩ := hSw; go_simp; (try with_reducible rfl)
    simp only [List.setIfInBounds_toArray, List.set_cons_zero, List.set_cons_succ]
    refine R_take 3 42 (v := ?_) rfl rfl (by rfl) (by kernel_rfl) (fun _ _ _ h => h) hS0 ?_ ?_
    rotate_left
    · intro w hSw; obtain ⟨hS1, hS2, hS3⟩ := hSw; go_simp; (try with_reducible rfl)
    simp only [List.setIfInBounds_toArray, List.set_cons_zero, List.set_cons_succ]
    refine R_take 4 43 (v := ?_) rfl rfl (by rfl) (by kernel_rfl) (fun _ _ _ h => h) hS0 ?_ ?_
    rotate_left
    · intro w hSw; obtain ⟨hS1, hS2, hS3⟩ := hSw; go_simp; (try with_reducible rfl)
    simp only [List.setIfInBounds_toArray, List.set_cons_zero, List.set_cons_succ]
    refine R_take 5 44 (v := ?_) rfl rfl (by rfl) (by kernel_rfl) (fun _ _ _ h => h) hS0 ?_ ?_
    rotate_left
    · intro w hSw; obtain ⟨hS1, hS2, hS3⟩ := hSw; go_simp; (try with_reducible rfl)
    simp only [List.setIfInBounds_toArray, List.set_cons_zero, List.set_cons_succ]
    refine R_take 6 45 (v := ?_) rfl rfl (by rfl) (by kernel_rfl) (fun _ _ _ h => h) hS0 ?_ ?_
    rotate_left
    · intro w hSw; obtain ⟨hS1, hS2, hS3⟩ := hSw; go_simp; (try with_reducible rfl)
    simp only [List.setIfInBounds_toArray, List.set_cons_zero, List.set_cons_succ]
    refine R_take 7 46 (v := ?_) rfl rfl (by rfl) (by kernel_rfl) (fun _ _ _ h => h) hS0 ?_ ?_
    rotate_left
    · intro w hSw; obtain ⟨hS1, hS2, hS3⟩ := hSw; go_simp; (try with_reducible rfl)
    simp only [List.setIfInBounds_toArray, List.set_cons_zero, List.set_cons_succ]
    have f4 := HB4.out.drew.frozen 0
    have hc4 := HB4.out.drew.cell 0
    have f5 := HB5.out.frozen 0
    have hc5 := HB5.out.cell 0
    simp only [List.getElem?_toArray, List.getElem?_cons_zero] at hc4 hc5
    refine R_store 8 (n := .skip) (w' := W.drew.setCell ⟨w.heap.size + 1, 0, none⟩ (str d.sure[k])) rfl rfl (by rfl) (by kernel_rfl) (by go_simp) (.inl rfl) (fun h => absurd h (by decide)) ?_
    refine R_store 9 (n := .skip) (w' := (W.drew.setCell ⟨w.heap.size + 1, 0, none⟩ (str d.sure[k])).setCell ⟨w.heap.size + 1 + 1, 0, none⟩ (.int .i64 0)) rfl rfl (by rfl) (by kernel_rfl) (run_op_store _ _ _ ⟨w.heap.size + 1 + 1, 0, none⟩ _ rfl rfl rfl (by go_simp)) (.inl rfl) (fun h => absurd h (by decide)) ?_
    refine R_done (by kernel_rfl) (NoPanic.normal ?_) _
    go_wp2_with fail
    have b4 := ((HB4.out.drew.set_ 0 (str d.sure[k])).far (p := ⟨w.heap.size + 1 + 1, 0, none⟩) (by simp) (.int .i64 0))
    have b5 := ((HB5.out.drew.far (p := ⟨w.heap.size + 1, 0, none⟩) (by simp) (str d.sure[k])).set_ 0 (.int .i64 0))
    have hKD : ((W.drew.setCell ⟨w.heap.size + 1, 0, none⟩ (str d.sure[k])).setCell ⟨w.heap.size + 1 + 1, 0, none⟩ (.int .i64 0)).heap[D]? = some (.deferred (some [])) := by
      rw [Below.heap_setCell _ _ _ D (show D ≠ w.heap.size + 1 + 1 by omega), Below.heap_setCell _ _ _ D (show D ≠ w.heap.size + 1 by omega)]
      exact HK.out
    have hb7 : Below w.heap.size w ((W.drew.setCell ⟨w.heap.size + 1, 0, none⟩ (str d.sure[k])).setCell ⟨w.heap.size + 1 + 1, 0, none⟩ (.int .i64 0)) := (hbW.drew.setCell (by simp) _).setCell (by simp; omega) _
    clear hS0 HAW HB4 HB5 f4 f5 hc4 hc5
    generalize (W.drew.setCell ⟨w.heap.size + 1, 0, none⟩ (str d.sure[k])).setCell ⟨w.heap.size + 1 + 1, 0, none⟩ (.int .i64 0) = W7 at *
    refine ⟨by simp, .inl ⟨_, _, rfl, run_takeDeferred hKD, ?_⟩⟩
    have b4' : Blk (W7.putObj D (.deferred none)) (w.heap.size + 1) 9 #[str d.sure[k]] := b4.keep (putObj_other _ _ _ _ (by omega))
    have b5' : Blk (W7.putObj D (.deferred none)) (w.heap.size + 1 + 1) 37 #[.int .i64 0] := b5.keep (putObj_other _ _ _ _ (by omega))
    have hb8 : Below w.heap.size w (W7.putObj D (.deferred none)) := hb7.grown (grownBy_putObj' _ _ _) hb7.size (fun q e => by cases e; omega)
    have c4 := b4'.cell 0
    have c5 := b5'.cell 0
    simp only [List.getElem?_toArray, List.getElem?_cons_zero] at c4 c5
    refine ⟨.tuple #[str d.sure[k], .int .i64 0], ?_, rfl, hb8⟩
    simp [results, Tryz.results74, go_sem, c4, c5]
end Go.Proofs.YtclpmkinjjhncaaGreat

/- The walks of package twin: placed, inside, clear, Read. -/
namespace Go.Proofs.YtclpmkinjjhncaaGreat
open Go.RowKit

set_option maxRecDepth 100000 in
set_option maxHeartbeats 2000000 in
theorem twin_placed {F : Foot} {w : World} {g : Nat} {d : Sp.Dk} (h : IsDk F w g d) (at_ base : Nat) (h1 : at_ + 33 ≤ d.sure.length) (h2 : base ≤ d.sure.length) :
    Calls Tryz.prog 155 #[.pointer (some ⟨g, 0, none⟩), .int .i64 at_, .int .i64 base] w fun e w' => e = .returned (.int .i64 0) ∧ w' = w := by
  have hfew := h.wf.few
  have HL := Lib.hid (disk_len h)
  have d1 : decide ((at_ : Int) < 0) = false := by simp
  have d2 : decide ((base : Int) < 0) = false := by simp
  have d3 : decide ((d.sure.length : Int) - 33 < at_) = false := by rw [decide_eq_false_iff_not]; omega
  have d4 : decide ((d.sure.length : Int) < base) = false := by rw [decide_eq_false_iff_not]; omega
  clear h
  go_enter Tryz.func155, Tryz.ntmps155
  go_wp2_with fail
  refine HL.out.mono ?_
  rintro e w1 ⟨rfl, hw⟩
  subst w1
  go_wp2_with fail
  refine HL.out.mono ?_
  rintro e w1 ⟨rfl, hw⟩
  subst w1
  go_wp2_with fail
  go_ret
  exact ⟨rfl, rfl⟩

/-- A page's home lies on the disk, and apart from the area. -/
def Sp.inside (n at_ base page : Nat) : Prop := base + page * 4 + 4 ≤ n ∧ at_ + 33 ≤ base + page * 4

set_option maxRecDepth 100000 in
set_option maxHeartbeats 2000000 in
theorem twin_inside {F : Foot} {w : World} {g : Nat} {d : Sp.Dk} (h : IsDk F w g d) (at_ base page : Nat) (hp : page < 4294967296) (hi : Sp.inside d.sure.length at_ base page) :
    Calls Tryz.prog 211 #[.pointer (some ⟨g, 0, none⟩), .int .i64 at_, .int .i64 base, .int .u32 page] w fun e w' => e = .returned (.bool true) ∧ w' = w := by
  have hfew := h.wf.few
  obtain ⟨i1, i2⟩ := hi
  have HL := Lib.hid (disk_len h)
  have d1 : decide ((base : Int) + page * 4 + 4 ≤ d.sure.length) = true := by rw [decide_eq_true_eq]; omega
  have d2 : decide ((at_ : Int) + 33 ≤ base + page * 4) = true := by rw [decide_eq_true_eq]; omega
  clear h
  go_enter Tryz.func211, Tryz.ntmps211
  go_wp2_with fail
  refine HL.out.mono ?_
  rintro e w1 ⟨rfl, hw⟩
  subst w1
  go_wp2_with fail
  go_ret
  exact ⟨rfl, rfl⟩

/-- A row of noughts. -/
def zrow (n : Nat) : Array Value := (List.replicate n (Value.int .u8 0)).toArray

theorem u8_info2 : (Tryz.prog.info? 5).map (fun i => (i.zero, i.size, i.bytes)) = some (some (.int .u8 0), 1, 1) := by kernel_rfl

set_option maxRecDepth 100000 in
theorem run_zmake (n : Nat) (hn : n ≤ 1000000) (W : World) : (Instr.makeSlice 102 (.int .i64 (n : Int)) (.int .i64 (n : Int))).run Tryz.prog W = .ok (.slice (some ⟨W.heap.size, 0, none⟩) n n) (W.alloc (.cells (zrow n) 5)) := by
  obtain ⟨i0, hi, hz0, hz1, hz2⟩ := info_parts u8_info2
  have := run_make_rowN (P := Tryz.prog) 102 5 i0 (.int .u8 0) Tryz.underlying102 hi hz0 .i64 .i64 n n (Nat.le_refl _) (by rw [hz2]; omega) (by omega) W
  rw [this, hz1, Nat.mul_one]
  rw [show (Value.int IntKind.u8 0).cells = #[.int .u8 0] from rfl, madeCells_one]
  rfl

theorem run_zback (n : Nat) (W : World) : (convert 102 9 (.slice (some ⟨W.heap.size, 0, none⟩) n n)).run Tryz.prog (W.alloc (.cells (zrow n) 5)) = .ok (str (Sp.zeros n)) (W.alloc (.cells (zrow n) 5)) := by
  refine run_bytes_back _ _ _ 5 W.heap.size 0 n n (Sp.zeros n) Tryz.underlying102 Tryz.underlying5 Tryz.underlying9 (by simp [Sp.zeros]) (fun j hj => ?_)
  have hj' : j < n := by simpa [Sp.zeros] using hj
  refine ((Blk.new W 5 (zrow n)).cell (0 + j)).trans ?_
  simp [zrow, Sp.zeros, hj']

set_option maxRecDepth 100000 in
set_option maxHeartbeats 2000000 in
theorem twin_clear (w : World) :
    Calls Tryz.prog 161 #[] w fun e w' => e = .returned (str (Sp.zeros 128)) ∧ Below w.heap.size w w' := by
  have hmk := run_zmake 128 (by omega)
  have hbk := run_zback 128
  change ∀ W, (Instr.makeSlice 102 (.int .i64 128) (.int .i64 128)).run _ W = _ at hmk
  obtain ⟨z, hz⟩ : ∃ z, Sp.zeros 128 = z := ⟨_, rfl⟩
  rw [hz] at hbk ⊢
  clear hz
  go_enter Tryz.func161, Tryz.ntmps161
  go_wp2_with fail
  go_ret
  exact ⟨rfl, (Below.refl _ w).alloc (Nat.le_refl _) _⟩

/-- A page's bytes on the disk. -/
def Sp.pageAt (s : List Sp.Bs) (at_ : Nat) : Sp.Bs := ((s.drop at_).take 4).flatten

set_option maxRecDepth 100000 in
set_option maxHeartbeats 2000000 in
theorem twin_read {F : Foot} {w : World} {g : Nat} {d : Sp.Dk} (h : IsDk F w g d) (hf : d.fuse ≠ 0) (hl : d.loose = []) (base page : Nat) (hp : page < 4294967296) (hi : base + page * 4 + 4 ≤ d.sure.length) :
    Calls Tryz.prog 103 #[.pointer (some ⟨g, 0, none⟩), .int .i64 base, .int .u32 page] w fun e w' => e = .returned (.tuple #[str (Sp.pageAt d.sure (base + page * 4)), .int .i64 0]) ∧ Below w.heap.size w w' := by
  have hfew := h.wf.few
  have hsec := h.wf.sure
  have HL := Lib.hid (disk_len h)
  have HR := Lib.hid fun W (h : IsDk F W g d) => disk_read h hf hl
  have HD := Lib.hid h
  have HSC := Lib.hid hsec
  have d1 : decide ((base : Int) < 0) = false := by simp
  have d2 : decide ((d.sure.length : Int) < base) = false := by rw [decide_eq_false_iff_not]; omega
  have d3 : decide ((d.sure.length : Int) - 4 < base + page * 4) = false := by rw [decide_eq_false_iff_not]; omega
  clear h hf hl hsec
  go_enter Tryz.func103, Tryz.ntmps103
  go_wp2_with fail
  refine HL.out.mono ?_
  rintro e w1 ⟨rfl, hw⟩
  subst w1
  go_wp2_with fail
  refine HL.out.mono ?_
  rintro e w1 ⟨rfl, hw⟩
  subst w1
  go_wp2_with fail
  go_loopw [8, 9, 10, 11, 31] (fun s _ _ _ i wr => ∃ k : Nat, k ≤ 4 ∧ i = .int .i64 k ∧ s = str ((d.sure.drop (base + page * 4)).take k).flatten ∧ Below w.heap.size w wr) (fun _ _ _ _ i _ => 4 - (intOf i).toNat)
  case atStart => exact ⟨0, by omega, rfl, by simp, Below.refl _ _⟩
  case round =>
    obtain ⟨k, hk, rfl, rfl, hb⟩ := hrel
    by_cases hlt : k < 4
    · have hR := HR.out _ (HD.out.below hb) (base + page * 4 + k) (by omega)
      have htk : ((d.sure.drop (base + page * 4)).take (k + 1)).flatten = ((d.sure.drop (base + page * 4)).take k).flatten ++ d.sure[base + page * 4 + k] := by
        rw [List.take_succ_eq_append_getElem (by rw [List.length_drop]; omega), List.flatten_append]
        simp
      have hlen : (((d.sure.drop (base + page * 4)).take k).flatten).length ≤ 1000 := by
        have := flatten_length_all (fun x : Sp.Bs => x) 128 ((d.sure.drop (base + page * 4)).take k) (fun x hx => HSC.out x (List.mem_of_mem_drop (List.mem_of_mem_take hx)))
        rw [List.map_id'] at this
        rw [this, List.length_take]
        have := Nat.min_le_left k (d.sure.drop (base + page * 4)).length
        omega
      have hlen2 := HSC.out _ (List.getElem_mem (show base + page * 4 + k < d.sure.length by omega))
      have hlen3 : (d.sure[base + page * 4 + k]).length ≤ 128 := by omega
      have HTK := Lib.hid htk
      have HRR := Lib.hid hR
      clear htk hR hlen2
      generalize d.sure[base + page * 4 + k] = s1 at *
      generalize ((d.sure.drop (base + page * 4)).take k).flatten = s0 at *
      go_wp2_with fail
      refine HRR.out.mono ?_
      rintro e w1 ⟨rfl, hb1⟩
      go_wp2_with fail
      go_roundw
      case rel => exact ⟨k + 1, by omega, by go_num, by rw [HTK.out, str_append], hb.trans (hb1.mono hb.size)⟩
      case measure => simp [intOf]; omega
    · obtain rfl : k = 4 := by omega
      go_wp2_with fail
      go_ret2
      exact ⟨rfl, hb⟩
end Go.Proofs.YtclpmkinjjhncaaGreat

/- The walks of package twin: the calls that write and sync (closures), one by one. -/
namespace Go.Proofs.YtclpmkinjjhncaaGreat
open Go.RowKit

/-- What a call of twin's does to a disk. -/
inductive Sp.TAct
  | wr (k : Nat) (s : Sp.Bs)
  | sync

def Sp.Dk.act (d : Sp.Dk) : Sp.TAct → Sp.Dk
  | .wr k s => d.put k s
  | .sync => d.synced
def Sp.Dk.acts (d : Sp.Dk) (l : List Sp.TAct) : Sp.Dk := l.foldl Sp.Dk.act d
def Sp.TAct.ok (n : Nat) : Sp.TAct → Prop
  | .wr k s => k < n ∧ s.length = 128
  | .sync => True

/-- A pointer to a variable of its own. -/
abbrev ptr (b : Nat) : Value := .pointer (some ⟨b, 0, none⟩)

/-- A function value that does this to the disk in block g; its variables lie in G. -/
def IsAct (G : Foot) (w : World) (g : Nat) (v : Value) : Sp.TAct → Prop
  | .wr k s => (∃ b0 b1 b2 b3 p t j, v = .func (.func 212) #[] #[ptr b0, ptr b1, ptr b2, ptr b3] ∧ (G b0 ∧ G b1 ∧ G b2 ∧ G b3) ∧ Blk w b0 30 #[ptr g] ∧ Blk w b1 3 #[.int .i64 (k : Nat)] ∧
        Blk w b2 180 #[.int .u32 (p : Nat), str t] ∧ Blk w b3 3 #[.int .i64 (j : Nat)] ∧ j < 4 ∧ t.length = 512 ∧ s = (t.drop (j * 128)).take 128) ∨
      (∃ b0 b1 b2, v = .func (.func 213) #[] #[ptr b0, ptr b1, ptr b2] ∧ (G b0 ∧ G b1 ∧ G b2) ∧ Blk w b0 30 #[ptr g] ∧ Blk w b1 3 #[.int .i64 (k : Nat)] ∧ Blk w b2 9 #[str s])
  | .sync => v = .func (.func 73) #[ptr g] #[]

theorem IsAct.keep {G : Foot} {w w' : World} {g : Nat} {v : Value} {a : Sp.TAct} (h : IsAct G w g v a) (hk : ∀ b, G b → w'.heap[b]? = w.heap[b]?) : IsAct G w' g v a := by
  cases a with
  | sync => exact h
  | wr k s =>
    rcases h with ⟨b0, b1, b2, b3, p, t, j, e, ⟨g0, g1, g2, g3⟩, h0, h1, h2, h3, rest⟩ | ⟨b0, b1, b2, e, ⟨g0, g1, g2⟩, h0, h1, h2⟩
    · exact .inl ⟨b0, b1, b2, b3, p, t, j, e, ⟨g0, g1, g2, g3⟩, h0.keep (hk _ g0), h1.keep (hk _ g1), h2.keep (hk _ g2), h3.keep (hk _ g3), rest⟩
    · exact .inr ⟨b0, b1, b2, e, ⟨g0, g1, g2⟩, h0.keep (hk _ g0), h1.keep (hk _ g1), h2.keep (hk _ g2)⟩
theorem IsAct.mono {G G' : Foot} {w : World} {g : Nat} {v : Value} {a : Sp.TAct} (h : IsAct G w g v a) (hG : ∀ b, G b → G' b) : IsAct G' w g v a := by
  cases a with
  | sync => exact h
  | wr k s =>
    rcases h with ⟨b0, b1, b2, b3, p, t, j, e, ⟨g0, g1, g2, g3⟩, rest⟩ | ⟨b0, b1, b2, e, ⟨g0, g1, g2⟩, rest⟩
    · exact .inl ⟨b0, b1, b2, b3, p, t, j, e, ⟨hG _ g0, hG _ g1, hG _ g2, hG _ g3⟩, rest⟩
    · exact .inr ⟨b0, b1, b2, e, ⟨hG _ g0, hG _ g1, hG _ g2⟩, rest⟩

/-- What a call of such a value says. -/
abbrev ActPost (F : Foot) (w : World) (g : Nat) (d' : Sp.Dk) : Ending → World → Prop := fun e w' => ∃ F', e = .returned (.int .i64 0) ∧ IsDk F' w' g d' ∧ Turns F F' w w'

set_option maxRecDepth 100000 in
set_option maxHeartbeats 2000000 in
theorem marks1_any {F : Foot} {w : World} {g : Nat} {d : Sp.Dk} (h : IsDk F w g d) (k : Nat) (s : Sp.Bs) (hk : k < d.sure.length) (hs : s.length = 128) (hf : d.fuse ≠ 0) (hl : d.loose.length ≤ 1000000)
    {b0 b1 b2 : Nat} (h0 : Blk w b0 30 #[ptr g]) (h1 : Blk w b1 3 #[.int .i64 (k : Nat)]) (h2 : Blk w b2 9 #[str s]) :
    Calls Tryz.prog 213 #[ptr b0, ptr b1, ptr b2] w (ActPost F w g (d.put k s)) := by
  have HW := Lib.hid (disk_write h k s hk hs hf hl)
  have c0 := h0.cell 0
  have c1 := h1.cell 0
  have c2 := h2.cell 0
  simp only [List.getElem?_toArray, List.getElem?_cons_zero] at c0 c1 c2
  clear h h0 h1 h2 hk hs
  go_enter Tryz.func213, Tryz.ntmps213
  go_wp2_with fail
  refine HW.out.mono ?_
  rintro e w1 ⟨F', rfl, hD, ht⟩
  have H1 := Lib.hid hD
  have H2 := Lib.hid ht
  clear hD ht
  go_wp2_with fail
  go_ret
  exact ⟨F', rfl, H1.out, H2.out⟩

set_option maxRecDepth 100000 in
set_option maxHeartbeats 4000000 in
theorem homes1_any {F : Foot} {w : World} {g : Nat} {d : Sp.Dk} (h : IsDk F w g d) (k p j : Nat) (t : Sp.Bs) (hk : k < d.sure.length) (ht : t.length = 512) (hj : j < 4) (hf : d.fuse ≠ 0) (hl : d.loose.length ≤ 1000000)
    {b0 b1 b2 b3 : Nat} (h0 : Blk w b0 30 #[ptr g]) (h1 : Blk w b1 3 #[.int .i64 (k : Nat)]) (h2 : Blk w b2 180 #[.int .u32 (p : Nat), str t]) (h3 : Blk w b3 3 #[.int .i64 (j : Nat)]) (hb : ¬ F b0 ∧ ¬ F b1 ∧ ¬ F b2 ∧ ¬ F b3) :
    Calls Tryz.prog 212 #[ptr b0, ptr b1, ptr b2, ptr b3] w (ActPost F w g (d.put k ((t.drop (j * 128)).take 128))) := by
  have hsl : ((t.drop (j * 128)).take 128).length = 128 := by rw [List.length_take, List.length_drop]; omega
  have HW := Lib.hid fun W (h : IsDk F W g d) => disk_write h k ((t.drop (j * 128)).take 128) hk hsl hf hl
  have c0 := h0.cell 0
  have c1 := h1.cell 0
  have c2 := h2.cell 1
  have c3 := h3.cell 0
  simp only [List.getElem?_toArray, List.getElem?_cons_zero, List.getElem?_cons_succ] at c0 c1 c2 c3
  have HD := Lib.hid h
  have w1 : IntKind.i64.wrap ((j : Int) * 128) = j * 128 := IntWalk.i64_in _ (by omega)
  have w2 : IntKind.i64.wrap ((j : Int) + 1) = j + 1 := IntWalk.i64_in _ (by omega)
  have w3 : IntKind.i64.wrap (((j : Int) + 1) * 128) = (j + 1) * 128 := IntWalk.i64_in _ (by omega)
  have hcut : ∀ W, (Instr.slice 9 (str t) (some (.int .i64 ((j : Int) * 128))) (some (.int .i64 (((j : Int) + 1) * 128))) none).run Tryz.prog W = Result.ok (str ((t.drop (j * 128)).take 128)) W := fun W => by
    have := run_slice_string (P := Tryz.prog) (w := W) 9 ⟨t.toArray⟩ .i64 .i64 ((j : Int) * 128) (((j : Int) + 1) * 128) Tryz.underlying9 (by omega) (by omega) (by rw [str_size]; omega)
    rw [this, str_extract]
    congr 3
    rw [show (((j : Int) * 128).toNat) = j * 128 by omega, show ((((j : Int) + 1) * 128).toNat) - j * 128 = 128 by omega]
  have HC := Lib.hid hcut
  have H0 := Lib.hid h0.drew
  have H1 := Lib.hid h1.drew
  have H2 := Lib.hid h2.drew
  have H3 := Lib.hid h3.drew
  clear h h0 h1 h2 h3 hk hsl hcut ht
  go_enter Tryz.func212, Tryz.ntmps212
  go_wp2_with fail
  have hS0 : (w.drew.cell? ⟨b0, 0, none⟩ = some (ptr g)) ∧ (w.drew.cell? ⟨b1, 0, none⟩ = some (.int .i64 k)) ∧ (w.drew.cell? ⟨b2, 1, none⟩ = some (str t)) ∧ (w.drew.cell? ⟨b3, 0, none⟩ = some (.int .i64 j)) := ⟨c0, c1, c2, c3⟩
  refine R_begin (fun W => (W.cell? ⟨b0, 0, none⟩ = some (ptr g)) ∧ (W.cell? ⟨b1, 0, none⟩ = some (.int .i64 k)) ∧ (W.cell? ⟨b2, 1, none⟩ = some (str t)) ∧ (W.cell? ⟨b3, 0, none⟩ = some (.int .i64 j))) (fun _ => false) (by kernel_rfl) ?_
  refine R_take 0 5 (v := ?_) rfl rfl (by rfl) (by kernel_rfl) (fun _ _ _ h => h) hS0 ?_ ?_
  rotate_left
  · intro w hSw; obtain ⟨hS1, hS2, hS3, hS4⟩ := hSw; go_simp; (try with_reducible rfl)
  simp only [List.setIfInBounds_toArray, List.set_cons_zero, List.set_cons_succ]
  refine R_take 1 6 (v := ?_) rfl rfl (by rfl) (by kernel_rfl) (fun _ _ _ h => h) hS0 ?_ ?_
  rotate_left
  · intro w hSw; obtain ⟨hS1, hS2, hS3, hS4⟩ := hSw; go_simp; (try with_reducible rfl)
  simp only [List.setIfInBounds_toArray, List.set_cons_zero, List.set_cons_succ]
  refine R_take 2 7 (v := ?_) rfl rfl (by rfl) (by kernel_rfl) (fun _ _ _ h => h) hS0 ?_ ?_
  rotate_left
  · intro w hSw; obtain ⟨hS1, hS2, hS3, hS4⟩ := hSw; go_simp; (try with_reducible rfl)
  simp only [List.setIfInBounds_toArray, List.set_cons_zero, List.set_cons_succ]
  refine R_take 3 8 (v := ?_) rfl rfl (by rfl) (by kernel_rfl) (fun _ _ _ h => h) hS0 ?_ ?_
  rotate_left
  · intro w hSw; obtain ⟨hS1, hS2, hS3, hS4⟩ := hSw; go_simp; (try with_reducible rfl)
  simp only [List.setIfInBounds_toArray, List.set_cons_zero, List.set_cons_succ]
  refine R_take 4 9 (v := ?_) rfl rfl (by rfl) (by kernel_rfl) (fun _ _ _ h => h) hS0 ?_ ?_
  rotate_left
  · intro w hSw; obtain ⟨hS1, hS2, hS3, hS4⟩ := hSw; go_simp; (try with_reducible rfl)
  simp only [List.setIfInBounds_toArray, List.set_cons_zero, List.set_cons_succ]
  refine R_take 5 10 (v := .int .i64 ((j : Int) * 128)) rfl rfl (by rfl) (by kernel_rfl) (fun _ _ _ h => h) hS0 (fun W hSw => by obtain ⟨hS1, hS2, hS3, hS4⟩ := hSw; go_simp) ?_
  simp only [List.setIfInBounds_toArray, List.set_cons_zero, List.set_cons_succ]
  refine R_take 6 11 (v := ?_) rfl rfl (by rfl) (by kernel_rfl) (fun _ _ _ h => h) hS0 ?_ ?_
  rotate_left
  · intro w hSw; obtain ⟨hS1, hS2, hS3, hS4⟩ := hSw; go_simp; (try with_reducible rfl)
  simp only [List.setIfInBounds_toArray, List.set_cons_zero, List.set_cons_succ]
  refine R_take 7 12 (v := .int .i64 ((j : Int) + 1)) rfl rfl (by rfl) (by kernel_rfl) (fun _ _ _ h => h) hS0 (fun W hSw => by obtain ⟨hS1, hS2, hS3, hS4⟩ := hSw; go_simp) ?_
  simp only [List.setIfInBounds_toArray, List.set_cons_zero, List.set_cons_succ]
  refine R_take 8 13 (v := .int .i64 (((j : Int) + 1) * 128)) rfl rfl (by rfl) (by kernel_rfl) (fun _ _ _ h => h) hS0 (fun W hSw => by obtain ⟨hS1, hS2, hS3, hS4⟩ := hSw; go_simp) ?_
  simp only [List.setIfInBounds_toArray, List.set_cons_zero, List.set_cons_succ]
  refine R_take 9 14 (v := str ((t.drop (j * 128)).take 128)) rfl rfl (by rfl) (by kernel_rfl) (fun _ _ _ h => h) hS0 (fun W _ => run_op_slice _ _ _ _ rfl rfl rfl rfl ((run_sliceAt_string (P := Tryz.prog) (w := W) _ _ _ _ _ Tryz.underlying9).trans (HC.out W))) ?_
  simp only [List.setIfInBounds_toArray, List.set_cons_zero, List.set_cons_succ]
  refine R_call 10 15 (f := 125) (args := #[ptr g, .int .i64 k, str ((t.drop (j * 128)).take 128)]) (w' := w.drew) rfl rfl (by rfl) (by kernel_rfl) (by go_simp) (HW.out w.drew (HD.out.keep (fun _ _ => rfl))) (fun e w'' hR => ?_)
  obtain ⟨F', rfl, hD, htt⟩ := hR
  have hS1 : (w''.cell? ⟨b0, 0, none⟩ = some (ptr g)) ∧ (w''.cell? ⟨b1, 0, none⟩ = some (.int .i64 k)) ∧ (w''.cell? ⟨b2, 1, none⟩ = some (str t)) ∧ (w''.cell? ⟨b3, 0, none⟩ = some (.int .i64 j)) := by
    obtain ⟨n0, n1, n2, n3⟩ := hb
    exact ⟨(H0.out.turns htt n0).cell 0, (H1.out.turns htt n1).cell 0, (H2.out.turns htt n2).cell 1, (H3.out.turns htt n3).cell 0⟩
  refine ⟨_, rfl, fun _ => hS1, ?_⟩
  simp only [List.setIfInBounds_toArray, List.set_cons_zero, List.set_cons_succ]
  refine R_run 11 4 (v := .int .i64 0) (w' := w'') rfl rfl (by rfl) (by kernel_rfl) (by clear hS1; go_simp) (fun _ => hS1) ?_
  simp only [List.setIfInBounds_toArray, List.set_cons_zero, List.set_cons_succ]
  refine R_done (by kernel_rfl) ?_ _
  have H4 := Lib.hid hD
  have H5 : Hid (Turns F F' w w'') := Lib.hid (⟨htt.os, htt.tape, htt.output, htt.size, htt.block, htt.foot⟩)
  clear hD htt hS1
  go_wp2_with fail
  go_ret
  exact ⟨F', rfl, H4.out, H5.out⟩
end Go.Proofs.YtclpmkinjjhncaaGreat

/- The walks of package twin: steps. -/
namespace Go.Proofs.YtclpmkinjjhncaaGreat
open Go.RowKit

namespace Sp
theorem act_fuse (d : Dk) (a : TAct) (h : d.fuse = -1) : (d.act a).fuse = -1 := by
  cases a <;> simp [Dk.act, Dk.put, Dk.synced, burn, h]
theorem act_sure (d : Dk) (a : TAct) : (d.act a).sure.length = d.sure.length := by
  cases a <;> simp [Dk.act, Dk.put, Dk.synced, Dk.view]
theorem act_loose (d : Dk) (a : TAct) : (d.act a).loose.length ≤ d.loose.length + 1 := by
  cases a <;> simp [Dk.act, Dk.put, Dk.synced]
theorem acts_snoc (d : Dk) (l : List TAct) (a : TAct) : d.acts (l ++ [a]) = (d.acts l).act a := by simp [Dk.acts]
theorem acts_app (d : Dk) (l m : List TAct) : d.acts (l ++ m) = (d.acts l).acts m := by simp [Dk.acts]
theorem acts_fuse (d : Dk) (h : d.fuse = -1) : ∀ l, (d.acts l).fuse = -1 := fun l => by
  induction l generalizing d with
  | nil => exact h
  | cons a l ih => exact ih (d.act a) (act_fuse d a h)
theorem acts_sure (d : Dk) : ∀ l, (d.acts l).sure.length = d.sure.length := fun l => by
  induction l generalizing d with
  | nil => rfl
  | cons a l ih => exact (ih (d.act a)).trans (act_sure d a)
theorem acts_loose (d : Dk) : ∀ l, (d.acts l).loose.length ≤ d.loose.length + l.length := fun l => by
  induction l generalizing d with
  | nil => exact Nat.le_refl _
  | cons a l ih =>
    have h1 := ih (d.act a)
    have h2 := act_loose d a
    show (Dk.acts (d.act a) l).loose.length ≤ _
    rw [List.length_cons]
    omega
end Sp

/-- A list of such values. -/
def IsActs (G : Foot) (w : World) (g : Nat) (fs : List Value) (as_ : List Sp.TAct) : Prop :=
  fs.length = as_.length ∧ ∀ (i : Nat) (v : Value) (a : Sp.TAct), fs[i]? = some v → as_[i]? = some a → IsAct G w g v a

theorem IsActs.nil (G : Foot) (w : World) (g : Nat) : IsActs G w g [] [] := ⟨rfl, fun i v a h => by simp at h⟩
theorem IsActs.app {G : Foot} {w : World} {g : Nat} {fs hs : List Value} {as_ bs : List Sp.TAct} (h : IsActs G w g fs as_) (k : IsActs G w g hs bs) : IsActs G w g (fs ++ hs) (as_ ++ bs) := by
  refine ⟨by simp [h.1, k.1], fun i v a hv ha => ?_⟩
  rcases Nat.lt_or_ge i fs.length with hi | hi
  · rw [List.getElem?_append_left hi] at hv
    rw [List.getElem?_append_left (by rw [← h.1]; exact hi)] at ha
    exact h.2 i v a hv ha
  · rw [List.getElem?_append_right hi] at hv
    rw [List.getElem?_append_right (by rw [← h.1]; exact hi), ← h.1] at ha
    exact k.2 _ v a hv ha
theorem IsActs.one {G : Foot} {w : World} {g : Nat} {v : Value} {a : Sp.TAct} (h : IsAct G w g v a) : IsActs G w g [v] [a] := by
  refine ⟨rfl, fun i v' a' hv ha => ?_⟩
  cases i with
  | zero => simp at hv ha; subst hv ha; exact h
  | succ i => simp at hv
theorem IsActs.keep {G : Foot} {w w' : World} {g : Nat} {fs : List Value} {as_ : List Sp.TAct} (h : IsActs G w g fs as_) (hk : ∀ b, G b → w'.heap[b]? = w.heap[b]?) : IsActs G w' g fs as_ := ⟨h.1, fun i v a hv ha => (h.2 i v a hv ha).keep hk⟩
theorem IsActs.mono {G G' : Foot} {w : World} {g : Nat} {fs : List Value} {as_ : List Sp.TAct} (h : IsActs G w g fs as_) (hG : ∀ b, G b → G' b) : IsActs G' w g fs as_ := ⟨h.1, fun i v a hv ha => (h.2 i v a hv ha).mono hG⟩

set_option maxRecDepth 100000 in
set_option maxHeartbeats 4000000 in
theorem twin_steps {F G : Foot} {w : World} {g : Nat} {d : Sp.Dk} (h : IsDk F w g d) (hf : d.fuse = -1) {A : Option Addr} {c : Nat} {fs : List Value} {as_ : List Sp.TAct} (hR : Reads G w 1 A fs.length fs)
    (hA : IsActs G w g fs as_) (hG : Apart w F G) (hok : ∀ a ∈ as_, a.ok d.sure.length) (hn : d.loose.length + as_.length ≤ 1000000) :
    Calls Tryz.prog 160 #[.slice A fs.length c] w (ActPost F w g (d.acts as_)) := by
  have HD := Lib.hid h
  have HF := Lib.hid hf
  have HR := Lib.hid hR
  have HA := Lib.hid hA
  have HG := Lib.hid hG
  have HOK := Lib.hid hok
  have HLEN := Lib.hid hA.1
  have hlen : fs.length ≤ 1000000 := by rw [hA.1]; omega
  clear h hf hR hA hG hok
  go_enter Tryz.func160, Tryz.ntmps160
  go_wp2_with fail
  go_loopw [4, 5, 8] (fun _ _ i wr => ∃ (k : Nat) (F' : Foot), k ≤ fs.length ∧ i = .int .i64 k ∧ IsDk F' wr g (d.acts (as_.take k)) ∧ Turns F F' w wr) (fun _ _ i _ => fs.length - (intOf i).toNat)
  case atStart => exact ⟨0, F, by omega, rfl, by simpa [Sp.Dk.acts] using HD.out, Turns.refl _ _⟩
  case round =>
    obtain ⟨k, F1, hk, rfl, hD, ht⟩ := hrel
    by_cases hlt : k < fs.length
    · have hka : k < as_.length := by rw [← HLEN.out]; exact hlt
      have hsn : Hid (d.acts (as_.take (k + 1)) = (d.acts (as_.take k)).act as_[k]) := Lib.hid (by
        rw [List.take_succ_eq_append_getElem hka, Sp.acts_snoc])
      have hG1 := ht.apart HG.out
      obtain ⟨b, o, u, rfl, _, _, hu, hc⟩ := (HR.out.turns ht HG.out).at_ hlt
      have hAk := (HA.out.2 k u as_[k] hu (List.getElem?_eq_getElem hka)).keep (ht.keep HG.out)
      have hokk := HOK.out _ (List.getElem_mem hka)
      have hfu : (d.acts (as_.take k)).fuse ≠ 0 := by rw [Sp.acts_fuse d HF.out]; decide
      have hsu := Sp.acts_sure d (as_.take k)
      have hlo : (d.acts (as_.take k)).loose.length ≤ 1000000 := by
        have h1 := Sp.acts_loose d (as_.take k)
        rw [List.length_take] at h1
        have := Nat.min_le_right k as_.length
        omega
      have hmeas : k + 1 ≤ fs.length := hlt
      generalize hak : as_[k] = a at *
      cases a with
      | sync =>
        have e : u = _ := hAk
        subst e
        have HC := Lib.hid (disk_sync hD hfu hlo)
        have HT := Lib.hid ht
        clear hak hD ht hAk hu hsu hG1 hokk
        go_wp2_with fail
        refine HC.out.mono ?_
        rintro e w1 ⟨F2, rfl, hD1, _, ht1⟩
        have HD1 := Lib.hid hD1
        have HT1 := Lib.hid (HT.out.trans ht1)
        clear hD1 ht1
        go_wp2_with fail
        go_roundw
        case rel => exact ⟨k + 1, F2, hmeas, by go_num, by rw [hsn.out]; exact HD1.out, HT1.out⟩
        case measure => simp [intOf]; omega
      | wr q s =>
        obtain ⟨ok1, ok2⟩ := hokk
        rcases hAk with ⟨b0, b1, b2, b3, p, t, j, rfl, ⟨g0, g1, g2, g3⟩, h0, h1, h2, h3, hj, ht5, rfl⟩ | ⟨b0, b1, b2, rfl, ⟨g0, g1, g2⟩, h0, h1, h2⟩
        · have HC := Lib.hid (homes1_any hD q p j t (by rw [hsu]; exact ok1) ht5 hj hfu hlo h0 h1 h2 h3 ⟨(hG1 _ g0).2, (hG1 _ g1).2, (hG1 _ g2).2, (hG1 _ g3).2⟩)
          have HT := Lib.hid ht
          clear hak hD ht hu hsu hG1 h0 h1 h2 h3 ht5 ok2
          go_wp2_with fail
          refine HC.out.mono ?_
          rintro e w1 ⟨F2, rfl, hD1, ht1⟩
          have HD1 := Lib.hid hD1
          have HT1 := Lib.hid (HT.out.trans ht1)
          clear hD1 ht1
          go_wp2_with fail
          go_roundw
          case rel => exact ⟨k + 1, F2, hmeas, by go_num, by rw [hsn.out]; exact HD1.out, HT1.out⟩
          case measure => simp [intOf]; omega
        · have HC := Lib.hid (marks1_any hD q s (by rw [hsu]; exact ok1) ok2 hfu hlo h0 h1 h2)
          have HT := Lib.hid ht
          clear hak hD ht hu hsu hG1 h0 h1 h2 ok2
          go_wp2_with fail
          refine HC.out.mono ?_
          rintro e w1 ⟨F2, rfl, hD1, ht1⟩
          have HD1 := Lib.hid hD1
          have HT1 := Lib.hid (HT.out.trans ht1)
          clear hD1 ht1
          go_wp2_with fail
          go_roundw
          case rel => exact ⟨k + 1, F2, hmeas, by go_num, by rw [hsn.out]; exact HD1.out, HT1.out⟩
          case measure => simp [intOf]; omega
    · obtain rfl : k = fs.length := by omega
      rw [HLEN.out, List.take_length] at hD
      have HD1 := Lib.hid hD
      have HT1 := Lib.hid ht
      clear hD ht
      go_wp2_with fail
      go_ret
      exact ⟨F1, rfl, HD1.out, HT1.out⟩
end Go.Proofs.YtclpmkinjjhncaaGreat

/- The walks of package twin: marks, homes. -/
namespace Go.Proofs.YtclpmkinjjhncaaGreat
open Go.RowKit

theorem fn_info : (Tryz.prog.info? 143).map (fun i => (i.zero, i.size, i.bytes)) = some (some .nilFunc, 1, 8) := by kernel_rfl

set_option maxRecDepth 100000 in
set_option maxHeartbeats 2000000 in
theorem twin_marks {w : World} (g k : Nat) (s : Sp.Bs) :
    Calls Tryz.prog 158 #[ptr g, .int .i64 k, str s] w fun e w' => ∃ b c fs, e = .returned (.slice (some ⟨b, 0, none⟩) 2 c) ∧ w.heap.size ≤ b ∧ Blk w' b 143 fs.toArray ∧ fs.length = 2 ∧ (∀ u ∈ fs, u.oneCell' = true) ∧
      IsActs (fun b => w.heap.size ≤ b) w' g fs [.wr k s, .sync] ∧ Below w.heap.size w w' := by
  go_enter Tryz.func158, Tryz.ntmps158
  go_wp2_with fail
  go_ret
  have hb := (((((Below.refl _ w).alloc (Nat.le_refl _) (.cells #[ptr g] 30)).alloc (by simp) (.cells #[.int .i64 (k : Nat)] 3)).alloc (by simp; omega) (.cells #[str s] 9)).alloc (by simp; omega) (.cells #[.func (.func 213) #[] #[ptr w.heap.size, ptr (w.heap.size + 1), ptr (w.heap.size + 1 + 1)], .func (.func 73) #[ptr g] #[]] 143))
  have b0 := (((Blk.new w 30 #[ptr g]).alloc (.cells #[.int .i64 (k : Nat)] 3)).alloc (.cells #[str s] 9)).alloc (.cells #[.func (.func 213) #[] #[ptr w.heap.size, ptr (w.heap.size + 1), ptr (w.heap.size + 1 + 1)], .func (.func 73) #[ptr g] #[]] 143)
  have b1 := ((Blk.new (w.alloc (.cells #[ptr g] 30)) 3 #[.int .i64 (k : Nat)]).alloc (.cells #[str s] 9)).alloc (.cells #[.func (.func 213) #[] #[ptr w.heap.size, ptr (w.heap.size + 1), ptr (w.heap.size + 1 + 1)], .func (.func 73) #[ptr g] #[]] 143)
  have b2 := (Blk.new ((w.alloc (.cells #[ptr g] 30)).alloc (.cells #[.int .i64 (k : Nat)] 3)) 9 #[str s]).alloc (.cells #[.func (.func 213) #[] #[ptr w.heap.size, ptr (w.heap.size + 1), ptr (w.heap.size + 1 + 1)], .func (.func 73) #[ptr g] #[]] 143)
  have b3 := Blk.new (((w.alloc (.cells #[ptr g] 30)).alloc (.cells #[.int .i64 (k : Nat)] 3)).alloc (.cells #[str s] 9)) 143 #[.func (.func 213) #[] #[ptr w.heap.size, ptr (w.heap.size + 1), ptr (w.heap.size + 1 + 1)], .func (.func 73) #[ptr g] #[]]
  simp only [World.size_alloc] at b1 b2 b3
  refine ⟨_, 2, [.func (.func 213) #[] #[ptr w.heap.size, ptr (w.heap.size + 1), ptr (w.heap.size + 1 + 1)], .func (.func 73) #[ptr g] #[]], rfl, by omega, b3, rfl, ?_, ?_, hb⟩
  · intro u hu
    rcases List.mem_cons.1 hu with rfl | hu
    · rfl
    · rw [List.mem_singleton.1 hu]; rfl
  · exact (IsActs.one (a := .wr k s) (.inr ⟨_, _, _, rfl, ⟨Nat.le_refl _, by omega, by omega⟩, b0, b1, b2⟩)).app (IsActs.one (a := .sync) rfl)

/-- Homes as cells. -/
def hcs (l : List (Nat × Sp.Bs)) : List Value := (l.map fun x => [.int .u32 (x.1 : Nat), str x.2]).flatten
theorem hcs_length (l : List (Nat × Sp.Bs)) : (hcs l).length = l.length * 2 := flatten_length_all _ 2 l (fun _ _ => rfl)
theorem hcs_app (a b : List (Nat × Sp.Bs)) : hcs (a ++ b) = hcs a ++ hcs b := by simp [hcs]
theorem hcs_at {l : List (Nat × Sp.Bs)} {i : Nat} (hi : i < l.length) : (hcs l)[i * 2]? = some (.int .u32 (l[i].1 : Nat)) ∧ (hcs l)[i * 2 + 1]? = some (str l[i].2) := by
  have e : l = l.take i ++ l[i] :: l.drop (i + 1) := by rw [← List.drop_eq_getElem_cons hi, List.take_append_drop]
  have h1 : (hcs (l.take i)).length = i * 2 := by rw [hcs_length, List.length_take, Nat.min_eq_left (by omega)]
  have e2 : hcs l = hcs (l.take i) ++ ([.int .u32 (l[i].1 : Nat), str l[i].2] ++ hcs (l.drop (i + 1))) := by
    conv => lhs; rw [e]
    rw [hcs_app]; rfl
  rw [e2]
  constructor
  · rw [List.getElem?_append_right (by omega), h1, Nat.sub_self]; rfl
  · rw [List.getElem?_append_right (by omega), h1, show i * 2 + 1 - i * 2 = 1 by omega]; rfl

theorem Reads.home {G : Foot} {w : World} {A : Option Addr} {l : List (Nat × Sp.Bs)} (h : Reads G w 2 A l.length (hcs l)) {k : Nat} (hk : k < l.length) :
    ∃ b o, A = some ⟨b, o, none⟩ ∧ G b ∧ b < w.heap.size ∧ w.cell? ⟨b, o + k * 2, none⟩ = some (.int .u32 (l[k].1 : Nat)) ∧ w.cell? ⟨b, o + k * 2 + 1, none⟩ = some (str l[k].2) := by
  obtain ⟨b, o, e, hG, hb, hc⟩ := h.2 (by omega)
  have h2 := hcs_at hk
  exact ⟨b, o, e, hG, hb, hc _ _ h2.1, hc _ _ h2.2⟩

def Sp.homeActs (base : Nat) (x : Nat × Sp.Bs) : List Sp.TAct := (List.range 4).map fun j => .wr (base + x.1 * 4 + j) ((x.2.drop (j * 128)).take 128)
def Sp.homesActs (base : Nat) (l : List (Nat × Sp.Bs)) : List Sp.TAct := (l.map (Sp.homeActs base)).flatten

theorem Sp.homeActs_length (base : Nat) (x : Nat × Sp.Bs) : (Sp.homeActs base x).length = 4 := by simp [Sp.homeActs]
theorem Sp.homesActs_length (base : Nat) (l : List (Nat × Sp.Bs)) : (Sp.homesActs base l).length = l.length * 4 := flatten_length_all _ 4 l (fun _ _ => Sp.homeActs_length _ _)
theorem Sp.homesActs_app (base : Nat) (a b : List (Nat × Sp.Bs)) : Sp.homesActs base (a ++ b) = Sp.homesActs base a ++ Sp.homesActs base b := by simp [Sp.homesActs]
theorem Sp.homesActs_succ (base : Nat) (l : List (Nat × Sp.Bs)) (i : Nat) (hi : i < l.length) : Sp.homesActs base (l.take (i + 1)) = Sp.homesActs base (l.take i) ++ Sp.homeActs base l[i] := by
  rw [List.take_succ_eq_append_getElem hi, Sp.homesActs_app]; simp [Sp.homesActs]
theorem Sp.homeActs_succ (base : Nat) (x : Nat × Sp.Bs) (j : Nat) (hj : j < 4) : (Sp.homeActs base x).take (j + 1) = (Sp.homeActs base x).take j ++ [.wr (base + x.1 * 4 + j) ((x.2.drop (j * 128)).take 128)] := by
  rw [List.take_succ_eq_append_getElem (by rw [Sp.homeActs_length]; exact hj)]
  simp [Sp.homeActs]

theorem IsAct.grown {G : Foot} {w w' : World} {g : Nat} {v : Value} {a : Sp.TAct} {row : Option Nat} (h : IsAct G w g v a) (hg : w.grownBy w' row) (hr : ∀ r, row = some r → ∃ cs, Blk w r 143 cs) : IsAct G w' g v a := by
  have key : ∀ {b t cs}, Blk w b t cs → t ≠ 143 → Blk w' b t cs := fun {b t cs} hb hne => hb.grown hg (fun e => by
    obtain ⟨cs', hc⟩ := hr _ e.symm
    exact Blk.ne_ hb hc hne rfl)
  cases a with
  | sync => exact h
  | wr k s =>
    rcases h with ⟨b0, b1, b2, b3, p, t, j, e, hG, h0, h1, h2, h3, rest⟩ | ⟨b0, b1, b2, e, hG, h0, h1, h2⟩
    · exact .inl ⟨b0, b1, b2, b3, p, t, j, e, hG, key h0 (by decide), key h1 (by decide), key h2 (by decide), key h3 (by decide), rest⟩
    · exact .inr ⟨b0, b1, b2, e, hG, key h0 (by decide), key h1 (by decide), key h2 (by decide)⟩
theorem IsActs.grown {G : Foot} {w w' : World} {g : Nat} {fs : List Value} {as_ : List Sp.TAct} {row : Option Nat} (h : IsActs G w g fs as_) (hg : w.grownBy w' row) (hr : ∀ r, row = some r → ∃ cs, Blk w r 143 cs) : IsActs G w' g fs as_ :=
  ⟨h.1, fun i v a hv ha => (h.2 i v a hv ha).grown hg hr⟩
theorem IsActs.below {G : Foot} {w w' : World} {g : Nat} {fs : List Value} {as_ : List Sp.TAct} (h : IsActs G w g fs as_) (hb : Below w.heap.size w w') : IsActs G w' g fs as_ :=
  h.grown (row := none) ⟨hb.os, hb.tape, hb.output, hb.size, fun b hb' _ => hb.block b hb'⟩ (fun r e => by cases e)

theorem own_blk {w : World} {base e size n : Nat} {v : Value} {xs : List Value} (h : w.ownsRow base e size v n xs) : ∀ r, v.ownBlock = some r → ∃ cs, Blk w r e cs := by
  intro r hr
  rcases h.2 with ⟨rfl, _⟩ | ⟨b, cap, cur, rfl, _, hh, _⟩
  · cases hr
  · have : b = r := by simpa [Value.ownBlock] using hr
    subst this
    exact ⟨cur, hh⟩

set_option maxRecDepth 100000 in
set_option maxHeartbeats 4000000 in
theorem twin_homes {G : Foot} {w : World} (g base : Nat) {A : Option Addr} {c : Nat} {l : List (Nat × Sp.Bs)} (hR : Reads G w 2 A l.length (hcs l)) (hl : l.length ≤ 1000) (hp : ∀ x ∈ l, x.1 < 4294967296 ∧ x.2.length = 512) (hb : base ≤ 1000000) :
    Calls Tryz.prog 157 #[ptr g, .int .i64 base, .slice A l.length c] w fun e w' => ∃ v fs, e = .returned v ∧ w'.ownsRow w.heap.size 143 1 v (l.length * 4 + 1) fs ∧
      IsActs (fun b => w.heap.size ≤ b) w' g fs (Sp.homesActs base l ++ [.sync]) ∧ Below w.heap.size w w' := by
  obtain ⟨i0, hi, hz0, hz1, hz2⟩ := info_parts fn_info
  have HR := Lib.hid hR
  have HP := Lib.hid hp
  clear hR hp
  go_enter Tryz.func157, Tryz.ntmps157
  go_wp2_with fail
  have hbx0 : Hid (Blk (w.alloc (.cells #[ptr g] 30)) w.heap.size 30 #[ptr g]) := Blk.new w _ _
  have hbw0 := (Below.refl _ w).alloc (Nat.le_refl _) (.cells #[ptr g] 30)
  have hs0 : w.heap.size < (w.alloc (.cells #[ptr g] 30)).heap.size := by simp
  generalize w.alloc (.cells #[ptr g] 30) = w1 at *
  go_loopw [6, 8, 9, 10, 13, 17] (fun v _ _ _ i _ wr => ∃ (k : Nat) (fs : List Value), k ≤ l.length ∧ i = .int .i64 k ∧ wr.ownsRow w.heap.size 143 1 v (k * 4) fs ∧
      IsActs (fun b => w.heap.size ≤ b) wr g fs (Sp.homesActs base (l.take k)) ∧ Below w.heap.size w wr ∧ Blk wr w.heap.size 30 #[ptr g]) (fun _ _ _ _ i _ _ => l.length - (intOf i).toNat)
  case atStart => exact ⟨0, [], by omega, rfl, by simpa using World.ownsRow_nil _ _ _ _, by simpa [Sp.homesActs] using IsActs.nil _ _ _, hbw0, hbx0.out⟩
  case round =>
    obtain ⟨wo, rfl⟩ : ∃ wo : World, wo = wr := ⟨_, rfl⟩
    obtain ⟨k, fs, hk, rfl, hO, hA, hbr, hB⟩ := hrel
    by_cases hlt : k < l.length
    · obtain ⟨b, o, rfl, _, _, r0, r1⟩ := (Reads.below HR.out hbr).home hlt
      have hpk := HP.out _ (List.getElem_mem hlt)
      have hp1 : l[k].1 < 4294967296 := hpk.1
      have htx := Lib.hid hpk.2
      have hsn := Lib.hid (Sp.homesActs_succ base l k hlt)
      have hmeas : k + 1 ≤ l.length := hlt
      clear hpk
      generalize hx : l[k] = x at *
      obtain ⟨p, t⟩ := x
      dsimp only at *
      have hB8 := Lib.hid (Blk.new wo 180 #[.int .u32 (p : Nat), str t])
      have hA8 := Lib.hid (hA.below ((Below.refl _ wo).alloc (Nat.le_refl _) (.cells #[.int .u32 (p : Nat), str t] 180)))
      have hO8 := Lib.hid (hO.alloc (.cells #[.int .u32 (p : Nat), str t] 180))
      have hBx := Lib.hid (hB.alloc (.cells #[.int .u32 (p : Nat), str t] 180))
      have hbr8 := hbr.alloc hbr.size (.cells #[.int .u32 (p : Nat), str t] 180)
      have hs8 : wo.heap.size < (wo.alloc (.cells #[.int .u32 (p : Nat), str t] 180)).heap.size := by simp
      have hs9 := hbr.size
      clear hx hO hA hB
      go_wp2_with fail
      obtain ⟨w8, hw8⟩ : ∃ w8, wo.alloc (.cells #[.int .u32 (p : Nat), str t] 180) = w8 := ⟨_, rfl⟩
      rw [hw8] at hB8 hA8 hO8 hBx hbr8 hs8 ⊢
      clear r0 r1 hw8
      go_loopw [6, 9, 10, 17] (fun v _ _ j W => ∃ (q : Nat) (fs : List Value), q ≤ 4 ∧ j = .int .i64 q ∧ W.ownsRow w.heap.size 143 1 v (k * 4 + q) fs ∧
        IsActs (fun b => w.heap.size ≤ b) W g fs (Sp.homesActs base (l.take k) ++ (Sp.homeActs base (p, t)).take q) ∧ Below w.heap.size w W ∧ Blk W w.heap.size 30 #[ptr g] ∧ Blk W wo.heap.size 180 #[.int .u32 (p : Nat), str t]) (fun _ _ _ j _ => 4 - (intOf j).toNat)
      case atStart => exact ⟨0, fs, by omega, rfl, hO8.out, by simpa using hA8.out, hbr8, hBx.out, hB8.out⟩
      case round =>
        obtain ⟨q, fs2, hq, rfl, hO, hA, hbr9, hB, hB2⟩ := hrel
        by_cases hlt2 : q < 4
        · have c2 := hB2.cell 0
          simp only [List.getElem?_toArray, List.getElem?_cons_zero] at c2
          have hlt8 := hB2.lt
          have hlt0 := hB.lt
          have hsn2 := Lib.hid (Sp.homeActs_succ base (p, t) q hlt2)
          have HO := Lib.hid (((hO.alloc (.cells #[.int .i64 (q : Nat)] 3)).alloc (.cells #[.int .i64 ((base : Int) + p * 4 + q)] 3)).alloc (.cells #[.func (.func 212) #[] #[ptr w.heap.size, ptr (wr.heap.size + 1), ptr wo.heap.size, ptr wr.heap.size]] 143))
          have HB := Lib.hid (((hB.alloc (.cells #[.int .i64 (q : Nat)] 3)).alloc (.cells #[.int .i64 ((base : Int) + p * 4 + q)] 3)).alloc (.cells #[.func (.func 212) #[] #[ptr w.heap.size, ptr (wr.heap.size + 1), ptr wo.heap.size, ptr wr.heap.size]] 143))
          have HB2 := Lib.hid (((hB2.alloc (.cells #[.int .i64 (q : Nat)] 3)).alloc (.cells #[.int .i64 ((base : Int) + p * 4 + q)] 3)).alloc (.cells #[.func (.func 212) #[] #[ptr w.heap.size, ptr (wr.heap.size + 1), ptr wo.heap.size, ptr wr.heap.size]] 143))
          have hbW : Below wr.heap.size wr (((wr.alloc (.cells #[.int .i64 (q : Nat)] 3)).alloc (.cells #[.int .i64 ((base : Int) + p * 4 + q)] 3)).alloc (.cells #[.func (.func 212) #[] #[ptr w.heap.size, ptr (wr.heap.size + 1), ptr wo.heap.size, ptr wr.heap.size]] 143)) := (((Below.refl _ wr).alloc (Nat.le_refl _) _).alloc (by simp) _).alloc (by simp; omega) _
          have HA := Lib.hid (hA.below hbW)
          have hbr10 := hbr9.trans (hbW.mono hbr9.size)
          have B9 := Lib.hid (((Blk.new wr 3 #[.int .i64 (q : Nat)]).alloc (.cells #[.int .i64 ((base : Int) + p * 4 + q)] 3)).alloc (.cells #[.func (.func 212) #[] #[ptr w.heap.size, ptr (wr.heap.size + 1), ptr wo.heap.size, ptr wr.heap.size]] 143))
          have B10 : Hid (Blk (((wr.alloc (.cells #[.int .i64 (q : Nat)] 3)).alloc (.cells #[.int .i64 ((base : Int) + p * 4 + q)] 3)).alloc (.cells #[.func (.func 212) #[] #[ptr w.heap.size, ptr (wr.heap.size + 1), ptr wo.heap.size, ptr wr.heap.size]] 143)) (wr.heap.size + 1) 3 #[.int .i64 ((base : Int) + p * 4 + q)]) := by
            have := (Blk.new (wr.alloc (.cells #[.int .i64 (q : Nat)] 3)) 3 #[.int .i64 ((base : Int) + p * 4 + q)]).alloc (.cells #[.func (.func 212) #[] #[ptr w.heap.size, ptr (wr.heap.size + 1), ptr wo.heap.size, ptr wr.heap.size]] 143)
            rw [World.size_alloc] at this
            exact this
          have hs10 := hbr9.size
          clear hO hA hB hB2 hbW
          go_wp2_with (at_builtin; refine wpList_append_own _ rfl _ _ 210 rfl w.heap.size 143 i0 .nilFunc 1 8 Tryz.underlying210 hi hz0 hz1 hz2 rfl (by decide) _ _ _ rfl HO.out ⟨wr.heap.size + 1 + 1, 0, none⟩ 1 1 [.func (.func 212) #[] #[ptr w.heap.size, ptr (wr.heap.size + 1), ptr wo.heap.size, ptr wr.heap.size]] rfl rfl (by have := cell_one_new ((wr.alloc (.cells #[.int .i64 (q : Nat)] 3)).alloc (.cells #[.int .i64 ((base : Int) + p * 4 + q)] 3)) (.func (.func 212) #[] #[ptr w.heap.size, ptr (wr.heap.size + 1), ptr wo.heap.size, ptr wr.heap.size]) 143; simpa only [World.size_alloc] using this) (fun x hx => by simp at hx; subst hx; rfl) (by unfold maxLen; omega) (by omega) (by simp; omega) ?_)
          intro v' w6 hown hgrow hnil
          have hrowb := own_blk HO.out
          have hA6 := HA.out.grown hgrow hrowb
          have hne9 : ∀ {b t cs}, Blk (((wr.alloc (.cells #[.int .i64 (q : Nat)] 3)).alloc (.cells #[.int .i64 ((base : Int) + p * 4 + q)] 3)).alloc (.cells #[.func (.func 212) #[] #[ptr w.heap.size, ptr (wr.heap.size + 1), ptr wo.heap.size, ptr wr.heap.size]] 143)) b t cs → t ≠ 143 → Blk w6 b t cs := fun {b t cs} hb hne => hb.grown hgrow (fun e => by
            obtain ⟨cs', hc⟩ := hrowb _ e.symm
            exact Blk.ne_ hb hc hne rfl)
          have h0 := hne9 HB.out (by decide)
          have h1 := hne9 B10.out (by decide)
          have h2 := hne9 HB2.out (by decide)
          have h3 := hne9 B9.out (by decide)
          have hb6 : Below w.heap.size w w6 := hbr10.grown hgrow hbr10.size (fun r e => (HO.out.lt r e).1)
          rw [show ((base : Int) + p * 4 + q) = ((base + p * 4 + q : Nat) : Int) by omega] at h1
          have hact : IsAct (fun b => w.heap.size ≤ b) w6 g (.func (.func 212) #[] #[ptr w.heap.size, ptr (wr.heap.size + 1), ptr wo.heap.size, ptr wr.heap.size]) (.wr (base + p * 4 + q) ((t.drop (q * 128)).take 128)) :=
            .inl ⟨_, _, _, _, p, t, q, rfl, ⟨Nat.le_refl _, by omega, by omega, by omega⟩, h0, h1, h2, h3, hlt2, htx.out, rfl⟩
          have HA7 := Lib.hid (hA6.app (IsActs.one hact))
          rw [List.append_assoc, ← hsn2.out] at HA7
          have HO7 := Lib.hid hown
          have H0 := Lib.hid h0
          have H2 := Lib.hid h2
          obtain ⟨g7, c7, rfl⟩ := own_form hown
          clear hnil hown hgrow hrowb hne9 hA6 h0 h1 h2 h3 hact c2
          go_wp2_with fail
          go_roundw
          case rel => exact ⟨q + 1, _, by omega, by go_num, HO7.out, HA7.out, hb6, H0.out, H2.out⟩
          case measure => simp [intOf]; omega
        · obtain rfl : q = 4 := by omega
          have h4 : (Sp.homeActs base (p, t)).take 4 = Sp.homeActs base (p, t) := List.take_of_length_le (by rw [Sp.homeActs_length]; exact Nat.le_refl _)
          rw [h4, ← hsn.out] at hA
          clear h4
          have HO7 := Lib.hid hO
          have HA7 := Lib.hid hA
          have H0 := Lib.hid hB
          clear hO hA hB hB2
          go_wp2_with fail
          go_roundw
          case rel => exact ⟨k + 1, _, hmeas, by go_num, by rw [show (k + 1) * 4 = k * 4 + 4 by omega]; exact HO7.out, HA7.out, hbr9, H0.out⟩
          case measure => simp [intOf]; omega
    · obtain rfl : k = l.length := by omega
      rw [List.take_length] at hA
      have c0 := hB.cell 0
      simp only [List.getElem?_toArray, List.getElem?_cons_zero] at c0
      have HA := Lib.hid (hA.below ((Below.refl _ wo).alloc (Nat.le_refl _) (.cells #[.func (.func 73) #[ptr g] #[]] 143)))
      have HO := Lib.hid (hO.alloc (.cells #[.func (.func 73) #[ptr g] #[]] 143))
      have hbr2 := hbr.alloc hbr.size (.cells #[.func (.func 73) #[ptr g] #[]] 143)
      have hs9 := hbr.size
      clear hA hO
      go_wp2_with (at_builtin; refine wpList_append_own _ rfl _ _ 210 rfl w.heap.size 143 i0 .nilFunc 1 8 Tryz.underlying210 hi hz0 hz1 hz2 rfl (by decide) _ _ _ rfl HO.out ⟨wo.heap.size, 0, none⟩ 1 1 [.func (.func 73) #[ptr g] #[]] rfl rfl (cell_one_new _ _ _) (fun x hx => by simp at hx; subst hx; rfl) (by unfold maxLen; omega) (by omega) (by simp; omega) ?_)
      intro v' w6 hown hgrow hnil
      have hA6 := (HA.out.grown hgrow (own_blk HO.out)).app (IsActs.one (a := .sync) (v := .func (.func 73) #[ptr g] #[]) rfl)
      have hb6 : Below w.heap.size w w6 := hbr2.grown hgrow hbr2.size (fun r e => (HO.out.lt r e).1)
      have HA7 := Lib.hid hA6
      have HO7 := Lib.hid hown
      obtain ⟨g7, c7, rfl⟩ := own_form hown
      clear hnil hown hgrow hA6 c0
      go_wp2_with fail
      go_ret
      exact ⟨_, _, rfl, HO7.out, HA7.out, hb6⟩
end Go.Proofs.YtclpmkinjjhncaaGreat

/- The walks of package twin: mark. -/
namespace Go.Proofs.YtclpmkinjjhncaaGreat
open Go.RowKit

namespace Sp
def markHead (l : List (Nat × Bs)) : Bs := [1, UInt8.ofNat l.length] ++ (l.map fun x => be 4 x.1).flatten
def markBs (l : List (Nat × Bs)) : Bs := sealed (markHead l ++ zeros (124 - (markHead l).length))
theorem markHead_length (l : List (Nat × Bs)) : (markHead l).length = 2 + 4 * l.length := by
  unfold markHead
  rw [List.length_append, flatten_length_all _ 4 l (fun _ _ => be_length 4 _)]
  simp; omega
theorem markBs_length {l : List (Nat × Bs)} (h : l.length ≤ 8) : (markBs l).length = 128 := by
  unfold markBs
  rw [sealed_length, List.length_append, markHead_length]
  simp only [zeros, List.length_replicate]
  omega
end Sp

set_option maxRecDepth 100000 in
set_option maxHeartbeats 4000000 in
theorem twin_mark {G : Foot} {w : World} {A : Option Addr} {c : Nat} {l : List (Nat × Sp.Bs)} (hR : Reads G w 2 A l.length (hcs l)) (hl : l.length ≤ 8) (hp : ∀ x ∈ l, x.1 < 4294967296) :
    Calls Tryz.prog 159 #[.slice A l.length c] w fun e w' => e = .returned (str (Sp.markBs l)) ∧ Below w.heap.size w w' := by
  have HR := Lib.hid hR
  have HP := Lib.hid hp
  have hbk : ∀ W : World, (convert 102 9 (.slice (some ⟨W.heap.size, 0, none⟩) 2 2)).run Tryz.prog (W.alloc (.cells #[.int .u8 1, .int .u8 (l.length : Nat)] 5)) = .ok (str [1, UInt8.ofNat l.length]) (W.alloc (.cells #[.int .u8 1, .int .u8 (l.length : Nat)] 5)) := fun W => by
    refine run_bytes_back _ _ _ 5 W.heap.size 0 2 2 [1, UInt8.ofNat l.length] Tryz.underlying102 Tryz.underlying5 Tryz.underlying9 rfl (fun j hj => ?_)
    refine ((Blk.new W 5 #[.int .u8 1, .int .u8 (l.length : Nat)]).cell (0 + j)).trans ?_
    match j, hj with
    | 0, _ => rfl
    | 1, _ =>
      simp only [List.getElem?_toArray, Nat.zero_add, List.getElem?_cons_succ, List.getElem?_cons_zero, List.getElem_cons_succ, List.getElem_cons_zero, UInt8.toNat_ofNat']
      rw [Nat.mod_eq_of_lt (by omega)]
  have HW : Hid (∀ (p : Nat) (W : World), p < 4294967296 → Calls Tryz.prog 133 #[.int .u64 (p : Nat), .int .i64 4] W fun e w' => e = .returned (.tuple #[str (Sp.be 4 p), .bool true]) ∧ Below W.heap.size W w') := fun p W hp => word_put p 4 W (by omega) (by omega) (by omega) (by omega)
  have hmk := run_zmake (124 - (Sp.markHead l).length) (by omega)
  have hzb := run_zback (124 - (Sp.markHead l).length)
  have hml := Sp.markHead_length l
  rw [show ((124 - (Sp.markHead l).length : Nat) : Int) = (124 : Int) - (Sp.markHead l).length by omega] at hmk
  have HS := Lib.hid fun (W : World) => sum_seal (Sp.markHead l ++ Sp.zeros (124 - (Sp.markHead l).length)) W (by simp [Sp.zeros]; omega)
  have HM : Hid (Sp.markHead l = [1, UInt8.ofNat l.length] ++ (l.map fun x => Sp.be 4 x.1).flatten) := rfl
  have HE : Hid (Sp.markBs l = Sp.sealed (Sp.markHead l ++ Sp.zeros (124 - (Sp.markHead l).length))) := rfl
  have HML := Lib.hid hml
  clear hR hp hml
  go_enter Tryz.func159, Tryz.ntmps159
  go_wp2_with fail
  have hb1 := (Below.refl _ w).alloc (Nat.le_refl _) (.cells #[.int .u8 1, .int .u8 (l.length : Nat)] 5)
  generalize w.alloc (.cells #[.int .u8 1, .int .u8 (l.length : Nat)] 5) = w1 at *
  go_loopw [3, 5, 6, 7, 15] (fun s _ _ _ i wr => ∃ k : Nat, k ≤ l.length ∧ i = .int .i64 k ∧ s = str ([1, UInt8.ofNat l.length] ++ ((l.take k).map fun x => Sp.be 4 x.1).flatten) ∧ Below w.heap.size w wr) (fun _ _ _ _ i _ => l.length - (intOf i).toNat)
  case atStart => exact ⟨0, by omega, rfl, by simp, hb1⟩
  case round =>
    obtain ⟨k, hk, rfl, rfl, hbr⟩ := hrel
    by_cases hlt : k < l.length
    · obtain ⟨b, o, rfl, _, _, r0, r1⟩ := (Reads.below HR.out hbr).home hlt
      have hpk := HP.out _ (List.getElem_mem hlt)
      have hsn : ((l.take (k + 1)).map fun x => Sp.be 4 x.1).flatten = ((l.take k).map fun x => Sp.be 4 x.1).flatten ++ Sp.be 4 l[k].1 := by
        rw [List.take_succ_eq_append_getElem hlt, List.map_append, List.flatten_append]
        simp only [List.map_cons, List.map_nil, List.flatten_cons, List.flatten_nil, List.append_nil]
      have hlen : ([1, UInt8.ofNat l.length] ++ ((l.take k).map fun x => Sp.be 4 x.1).flatten).length ≤ 1000 := by
        rw [List.length_append, flatten_length_all _ 4 _ (fun _ _ => Sp.be_length 4 _), List.length_take]
        have := Nat.min_le_right k l.length
        simp; omega
      have hlen4 : (Sp.be 4 l[k].1).length ≤ 4 := by rw [Sp.be_length]; exact Nat.le_refl _
      have HSN := Lib.hid hsn
      have hmeas : k + 1 ≤ l.length := hlt
      have HWK := Lib.hid fun W => HW.out l[k].1 W hpk
      have hb2 := hbr.alloc hbr.size (.cells #[.int .u32 (l[k].1 : Nat), str l[k].2] 180)
      have hs9 := hbr.size
      clear hsn
      generalize l[k] = x at *
      obtain ⟨p, t⟩ := x
      dsimp only at *
      generalize hs0 : [1, UInt8.ofNat l.length] ++ ((l.take k).map fun x => Sp.be 4 x.1).flatten = s0 at *
      have HS0 := Lib.hid hs0
      clear hs0
      generalize Sp.be 4 p = s1 at *
      go_wp2_with fail
      refine (HWK.out _).mono ?_
      rintro e w2 ⟨rfl, hb3⟩
      have hb4 := hb2.trans (hb3.mono hb2.size)
      clear hb2 hb3 r0 r1
      go_wp2_with fail
      go_roundw
      case rel => exact ⟨k + 1, hmeas, by go_num, by rw [HSN.out, ← List.append_assoc, HS0.out, str_append], hb4⟩
      case measure => simp [intOf]; omega
    · obtain rfl : k = l.length := by omega
      rw [List.take_length, ← HM.out]
      have hmll : (Sp.markHead l).length ≤ 34 := by rw [HML.out]; omega
      have hzl : (Sp.zeros (124 - (Sp.markHead l).length)).length ≤ 124 := by simp [Sp.zeros]
      have hbr2 := hbr.alloc hbr.size (.cells (zrow (124 - (Sp.markHead l).length)) 5)
      go_wp2_with fail
      rw [str_append]
      refine (HS.out _).mono ?_
      rintro e w2 ⟨rfl, hb3⟩
      rw [← HE.out]
      have hb4 := hbr2.trans (hb3.mono hbr2.size)
      go_wp2_with fail
      go_ret
      exact ⟨rfl, hb4⟩
end Go.Proofs.YtclpmkinjjhncaaGreat

/- The walks of package twin: may. -/
namespace Go.Proofs.YtclpmkinjjhncaaGreat
open Go.RowKit

theorem Tryz.zb (w : World) : (zeroValue 4).run Tryz.prog w = .ok (.bool false) w := by kernel_rfl

set_option maxRecDepth 100000 in
set_option maxHeartbeats 4000000 in
theorem twin_may {F G : Foot} {w : World} {g : Nat} {d : Sp.Dk} (h : IsDk F w g d) (at_ base : Nat) {A : Option Addr} {c : Nat} {l : List (Nat × Sp.Bs)} (hR : Reads G w 2 A l.length (hcs l)) (h1 : 1 ≤ l.length) (h8 : l.length ≤ 8)
    (hp : ∀ x ∈ l, x.1 < 4294967296 ∧ x.2.length = 512 ∧ Sp.inside d.sure.length at_ base x.1) (hn : (l.map (·.1)).Nodup) :
    Calls Tryz.prog 156 #[ptr g, .int .i64 at_, .int .i64 base, .slice A l.length c] w fun e w' => e = .returned (.bool true) ∧ Below w.heap.size w w' := by
  have HR := Lib.hid hR
  have HP := Lib.hid hp
  have HN := Lib.hid hn
  have HD := Lib.hid h
  have hmm := @run_makeMap Tryz.prog
  clear h hR hp hn
  go_enter Tryz.func156, Tryz.ntmps156
  go_wp2_with fail
  have hU0 : USet Tryz.prog 25 4 (w.alloc (.map #[] 0)) w.heap.size 0 [] := USet.made w
  have hb0 := (Below.refl _ w).alloc (Nat.le_refl _) (.map #[] 0)
  have HU0 := Lib.hid hU0
  clear hU0 hmm
  generalize w.alloc (.map #[] 0) = w1 at *
  go_loopw [11, 15] (fun _ i wr => ∃ k : Nat, k ≤ l.length ∧ i = .int .i64 k ∧ USet Tryz.prog 25 4 wr w.heap.size k ((l.take k).map (·.1)) ∧ Below w.heap.size w wr) (fun _ i _ => l.length - (intOf i).toNat)
  case atStart => exact ⟨0, by omega, rfl, HU0.out, hb0⟩
  case round =>
    obtain ⟨k, hk, rfl, hU, hbr⟩ := hrel
    by_cases hlt : k < l.length
    · obtain ⟨b, o, rfl, _, _, r0, r1⟩ := (Reads.below HR.out hbr).home hlt
      obtain ⟨hp1, hp2, hp3⟩ := HP.out _ (List.getElem_mem hlt)
      have hmeas : k + 1 ≤ l.length := hlt
      have hnot : l[k].1 ∉ (l.take k).map (·.1) := by
        have hs : l.map (·.1) = (l.take k).map (·.1) ++ l[k].1 :: (l.drop (k + 1)).map (·.1) := by
          conv => lhs; rw [← List.take_append_drop k l, List.drop_eq_getElem_cons hlt]
          rw [List.map_append, List.map_cons]
        have hnd := HN.out
        rw [hs, List.nodup_append] at hnd
        intro hm
        exact hnd.2.2 _ hm _ (List.mem_cons_self) rfl
      have hsn : (l.take (k + 1)).map (·.1) = (l.take k).map (·.1) ++ [l[k].1] := by
        rw [List.take_succ_eq_append_getElem hlt, List.map_append]; rfl
      have HSN := Lib.hid hsn
      have d1 : ((l[k].2.length : Int) != 512) = false := by rw [hp2]; rfl
      have hUa := hU.alloc (.cells #[.int .u32 (l[k].1 : Nat), str l[k].2] 180)
      have hrun := hUa.look_not Tryz.underlying25 Tryz.underlying4 Tryz.underlying229 (Tryz.zb _) hp1 hnot
      have hb2 := hbr.alloc hbr.size (.cells #[.int .u32 (l[k].1 : Nat), str l[k].2] 180)
      have HUA := Lib.hid hUa
      have hD2 := ((HD.out.below hbr).below ((Below.refl _ wr).alloc (Nat.le_refl _) (.cells #[.int .u32 (l[k].1 : Nat), str l[k].2] 180)))
      have HI := Lib.hid (twin_inside hD2 at_ base l[k].1 hp1 hp3)
      have hs9 := hbr.size
      clear hnot hsn hU hUa hp2 hp3 hD2
      generalize l[k] = x at *
      obtain ⟨p, t⟩ := x
      dsimp only at *
      go_wp2_with fail
      refine HI.out.mono ?_
      rintro e w2 ⟨rfl, hw⟩
      subst w2
      obtain ⟨w3, hrun3, hU3, hg3⟩ := HUA.out.put Tryz.underlying25 Tryz.underlying4 Tryz.underlying229 (by unfold maxLen; omega) hp1
      have HU3 := Lib.hid hU3
      have hb3 := hb2.grown hg3 hb2.size (fun r e => by cases e; exact Nat.le_refl _)
      clear hU3 hg3 hb2
      go_wp2_with fail
      go_roundw
      case rel => exact ⟨k + 1, hmeas, by go_num, by rw [HSN.out]; exact HU3.out, hb3⟩
      case measure => simp [intOf]; omega
    · obtain rfl : k = l.length := by omega
      have d2 : decide (1 ≤ (l.length : Int)) = true := by rw [decide_eq_true_eq]; omega
      have d3 : decide ((l.length : Int) ≤ 8) = true := by rw [decide_eq_true_eq]; omega
      clear hU
      go_wp2_with fail
      go_ret
      exact ⟨rfl, hbr⟩
end Go.Proofs.YtclpmkinjjhncaaGreat

/- The walks of package twin: Write. -/
namespace Go.Proofs.YtclpmkinjjhncaaGreat
open Go.RowKit

namespace Sp
def areaOf (l : List (Nat × Bs)) : List (Nat × Bs) := l.zipIdx.map fun x => (x.2, x.1.2)
theorem areaOf_length (l : List (Nat × Bs)) : (areaOf l).length = l.length := by simp [areaOf]
theorem areaOf_get (l : List (Nat × Bs)) (k : Nat) (hk : k < l.length) : (areaOf l)[k]? = some (k, l[k].2) := by simp [areaOf, hk]
theorem areaOf_succ (l : List (Nat × Bs)) (k : Nat) (hk : k < l.length) : (areaOf l).take (k + 1) = (areaOf l).take k ++ [(k, l[k].2)] := by
  rw [List.take_add_one, areaOf_get l k hk]; rfl
def twinActs (at_ base : Nat) (l : List (Nat × Bs)) : List TAct :=
  ((homesActs (at_ + 1) (areaOf l) ++ [.sync]) ++ [.wr at_ (markBs l), .sync]) ++ (homesActs base l ++ [.sync]) ++ [.wr at_ (zeros 128), .sync]
end Sp

theorem home_info : (Tryz.prog.info? 180).map (fun i => (i.zero, i.size, i.bytes)) = some (some (.agg #[.int .u32 0, .string ⟨#[]⟩]), 2, 24) := by kernel_rfl

theorem IsAct.lt {G : Foot} {w : World} {g : Nat} {v : Value} {a : Sp.TAct} (h : IsAct G w g v a) : IsAct (fun b => G b ∧ b < w.heap.size) w g v a := by
  cases a with
  | sync => exact h
  | wr k s =>
    rcases h with ⟨b0, b1, b2, b3, p, t, j, e, ⟨g0, g1, g2, g3⟩, h0, h1, h2, h3, rest⟩ | ⟨b0, b1, b2, e, ⟨g0, g1, g2⟩, h0, h1, h2⟩
    · exact .inl ⟨b0, b1, b2, b3, p, t, j, e, ⟨⟨g0, h0.lt⟩, ⟨g1, h1.lt⟩, ⟨g2, h2.lt⟩, ⟨g3, h3.lt⟩⟩, h0, h1, h2, h3, rest⟩
    · exact .inr ⟨b0, b1, b2, e, ⟨⟨g0, h0.lt⟩, ⟨g1, h1.lt⟩, ⟨g2, h2.lt⟩⟩, h0, h1, h2⟩
theorem IsAct.one_ {G : Foot} {w : World} {g : Nat} {v : Value} {a : Sp.TAct} (h : IsAct G w g v a) : v.oneCell' = true := by
  cases a with
  | sync =>
    have e : v = _ := h
    rw [e]; rfl
  | wr k s => rcases h with ⟨b0, b1, b2, b3, p, t, j, rfl, _⟩ | ⟨b0, b1, b2, rfl, _⟩ <;> rfl
theorem IsActs.one_ {G : Foot} {w : World} {g : Nat} {fs : List Value} {as_ : List Sp.TAct} (h : IsActs G w g fs as_) : ∀ u ∈ fs, u.oneCell' = true := by
  intro u hu
  obtain ⟨i, hi, rfl⟩ := List.mem_iff_getElem.1 hu
  have hia : i < as_.length := by rw [← h.1]; exact hi
  exact (h.2 i _ _ (List.getElem?_eq_getElem hi) (List.getElem?_eq_getElem hia)).one_
theorem IsActs.lt {G : Foot} {w : World} {g : Nat} {fs : List Value} {as_ : List Sp.TAct} (h : IsActs G w g fs as_) : IsActs (fun b => G b ∧ b < w.heap.size) w g fs as_ := ⟨h.1, fun i v a hv ha => (h.2 i v a hv ha).lt⟩

theorem hcs_cells (l : List (Nat × Sp.Bs)) : ∀ u ∈ hcs l, u.oneCell' = true := by
  intro u hu
  unfold hcs at hu
  rw [List.mem_flatten] at hu
  obtain ⟨x, hx, hu⟩ := hu
  obtain ⟨y, _, rfl⟩ := List.mem_map.1 hx
  rcases List.mem_cons.1 hu with rfl | hu
  · rfl
  · rw [List.mem_singleton.1 hu]; rfl

theorem own_form' {w : World} {base e size n : Nat} {v : Value} {xs : List Value} (h : w.ownsRow base e size v n xs) (hn : 1 ≤ n) : ∃ g c, v = .slice (some ⟨g, 0, none⟩) n c := by
  rcases h.2 with ⟨_, h0⟩ | ⟨g, c, _, h0, _⟩
  · omega
  · exact ⟨g, c, h0⟩
theorem own_reads {w : World} {base e size n g c : Nat} {xs : List Value} (h : w.ownsRow base e size (.slice (some ⟨g, 0, none⟩) n c) n xs) : Reads (fun b => base ≤ b) w size (some ⟨g, 0, none⟩) n xs := by
  refine ⟨h.1, fun _ => ⟨g, 0, rfl, (h.lt g rfl).1, (h.lt g rfl).2, fun j u hu => ?_⟩⟩
  have := h.cells (g := g) rfl j u hu
  rw [show (⟨g, 0, none⟩ : Addr).add j = ⟨g, 0 + j, none⟩ by unfold Addr.add; split <;> simp_all] at this
  exact this
theorem own_below {w w' : World} {base e size n : Nat} {v : Value} {xs : List Value} (h : w.ownsRow base e size v n xs) (hb : Below w.heap.size w w') : w'.ownsRow base e size v n xs :=
  h.kept (row := none) ⟨hb.os, hb.tape, hb.output, hb.size, fun k hk _ => hb.block k hk⟩ (by cases v.ownBlock <;> simp)
theorem add_lit (b j : Nat) : (⟨b, 0, none⟩ : Addr).add j = ⟨b, j, none⟩ := by unfold Addr.add; split <;> simp_all

theorem Reads.lt {G : Foot} {w : World} {size n : Nat} {A : Option Addr} {xs : List Value} (h : Reads G w size A n xs) : Reads (fun b => G b ∧ b < w.heap.size) w size A n xs :=
  ⟨h.1, fun hn => by
    obtain ⟨b, o, e, hG, hb, hc⟩ := h.2 hn
    exact ⟨b, o, e, ⟨hG, hb⟩, hb, hc⟩⟩

theorem Sp.homesActs_ok {n base : Nat} {l : List (Nat × Sp.Bs)} (h : ∀ x ∈ l, base + x.1 * 4 + 4 ≤ n ∧ x.2.length = 512) : ∀ a ∈ Sp.homesActs base l, a.ok n := by
  intro a ha
  unfold Sp.homesActs at ha
  rw [List.mem_flatten] at ha
  obtain ⟨y, hy, ha⟩ := ha
  obtain ⟨x, hx, rfl⟩ := List.mem_map.1 hy
  obtain ⟨j, hj, rfl⟩ := List.mem_map.1 ha
  have hj' := List.mem_range.1 hj
  obtain ⟨h1, h2⟩ := h x hx
  refine ⟨by omega, ?_⟩
  rw [List.length_take, List.length_drop]; omega

theorem Sp.areaOf_mem {l : List (Nat × Sp.Bs)} {x : Nat × Sp.Bs} (h : x ∈ Sp.areaOf l) : x.1 < l.length ∧ ∃ y ∈ l, x.2 = y.2 := by
  obtain ⟨k, hk, rfl⟩ := List.mem_iff_getElem.1 h
  have hk' : k < l.length := by rw [Sp.areaOf_length] at hk; exact hk
  have e := Sp.areaOf_get l k hk'
  rw [List.getElem?_eq_getElem hk, Option.some.injEq] at e
  rw [e]
  exact ⟨hk', l[k], List.getElem_mem hk', rfl⟩

theorem Sp.twinActs_ok {n at_ base : Nat} {l : List (Nat × Sp.Bs)} (h8 : l.length ≤ 8) (hp : ∀ x ∈ l, x.2.length = 512 ∧ Sp.inside n at_ base x.1) (ha : at_ + 33 ≤ n) : ∀ a ∈ Sp.twinActs at_ base l, a.ok n := by
  intro a h
  unfold Sp.twinActs at h
  have hs : Sp.TAct.ok n .sync := trivial
  have hm : Sp.TAct.ok n (.wr at_ (Sp.markBs l)) := ⟨by omega, Sp.markBs_length h8⟩
  have hz : Sp.TAct.ok n (.wr at_ (Sp.zeros 128)) := ⟨by omega, by simp [Sp.zeros]⟩
  have h1 := Sp.homesActs_ok (n := n) (base := at_ + 1) (l := Sp.areaOf l) (fun x hx => by
    obtain ⟨e1, y, hy, e2⟩ := Sp.areaOf_mem hx
    exact ⟨by omega, by rw [e2]; exact (hp y hy).1⟩)
  have h2 := Sp.homesActs_ok (n := n) (base := base) (l := l) (fun x hx => ⟨(hp x hx).2.1, (hp x hx).1⟩)
  simp only [List.mem_append, List.mem_cons, List.not_mem_nil, or_false] at h
  rcases h with (((h | rfl) | (rfl | rfl)) | (h | rfl)) | (rfl | rfl)
  · exact h1 a h
  · exact hs
  · exact hm
  · exact hs
  · exact h2 a h
  · exact hs
  · exact hz
  · exact hs
theorem Sp.twinActs_length (at_ base : Nat) (l : List (Nat × Sp.Bs)) : (Sp.twinActs at_ base l).length = l.length * 8 + 6 := by
  simp only [Sp.twinActs, List.length_append, Sp.homesActs_length, Sp.areaOf_length, List.length_cons, List.length_nil]
  omega

set_option maxRecDepth 100000 in
set_option maxHeartbeats 8000000 in
theorem twin_write {F G : Foot} {w : World} {g : Nat} {d : Sp.Dk} (h : IsDk F w g d) (hf : d.fuse = -1) (hlo : d.loose.length ≤ 1000) (at_ base : Nat) {A : Option Addr} {c : Nat} {l : List (Nat × Sp.Bs)} (hR : Reads G w 2 A l.length (hcs l)) (h1 : 1 ≤ l.length) (h8 : l.length ≤ 8)
    (hp : ∀ x ∈ l, x.1 < 4294967296 ∧ x.2.length = 512 ∧ Sp.inside d.sure.length at_ base x.1) (hn : (l.map (·.1)).Nodup) (ha : at_ + 33 ≤ d.sure.length) (hb : base ≤ d.sure.length) :
    Calls Tryz.prog 97 #[ptr g, .int .i64 at_, .int .i64 base, .slice A l.length c] w (ActPost F w g (d.acts (Sp.twinActs at_ base l))) := by
  obtain ⟨i0, hi, hz0, hz1, hz2⟩ := info_parts fn_info
  obtain ⟨j0, hj, hy0, hy1, hy2⟩ := info_parts home_info
  have hfew := h.wf.few
  have HPL := Lib.hid (twin_placed h at_ base ha hb)
  have HMY := Lib.hid (twin_may h at_ base hR h1 h8 (c := c) hp hn)
  have HR := Lib.hid hR
  have HP := Lib.hid hp
  have HD := Lib.hid h
  have HF := Lib.hid hf
  have HIN := Lib.hid h.in_
  clear h hf hR hp hn
  go_enter Tryz.func97, Tryz.ntmps97
  go_wp2_with fail
  refine HPL.out.mono ?_
  rintro e w1 ⟨rfl, hw⟩
  subst w1
  go_wp2_with fail
  refine HMY.out.mono ?_
  rintro e w1 ⟨rfl, hb1⟩
  have hs1 := hb1.size
  go_wp2_with fail
  go_loopw [10, 11, 12, 29] (fun v _ _ i wr => ∃ k : Nat, k ≤ l.length ∧ i = .int .i64 k ∧ wr.ownsRow w1.heap.size 180 2 v k (hcs ((Sp.areaOf l).take k)) ∧ Below w.heap.size w wr ∧ w1.heap.size ≤ wr.heap.size) (fun _ _ _ i _ => l.length - (intOf i).toNat)
  case atStart => exact ⟨0, by omega, rfl, by simpa [hcs] using World.ownsRow_nil _ _ _ _, hb1, Nat.le_refl _⟩
  case round =>
    obtain ⟨k, hk, rfl, hO, hbr, hsr⟩ := hrel
    by_cases hlt : k < l.length
    · obtain ⟨b, o, rfl, _, _, r0, r1⟩ := (Reads.below HR.out hbr).home hlt
      have hsn : hcs ((Sp.areaOf l).take (k + 1)) = hcs ((Sp.areaOf l).take k) ++ [.int .u32 (k : Nat), str l[k].2] := by
        rw [Sp.areaOf_succ l k hlt, hcs_app]; rfl
      have HSN := Lib.hid hsn
      have hmeas : k + 1 ≤ l.length := hlt
      clear hsn
      generalize l[k] = x at *
      obtain ⟨p, t⟩ := x
      dsimp only at *
      have HO := Lib.hid ((hO.alloc (.cells #[.int .u32 (p : Nat), str t] 180)).alloc (.cells #[.int .u32 (k : Nat), str t] 180))
      have hbr2 := (hbr.alloc hbr.size (.cells #[.int .u32 (p : Nat), str t] 180)).alloc (by have := hbr.size; simp; omega) (.cells #[.int .u32 (k : Nat), str t] 180)
      have hs9 := hbr.size
      have hnews : Hid (∀ j u, [Value.int .u32 (k : Nat), str t][j]? = some u → ((wr.alloc (.cells #[.int .u32 (p : Nat), str t] 180)).alloc (.cells #[.int .u32 (k : Nat), str t] 180)).cell? ((⟨wr.heap.size + 1, 0, none⟩ : Addr).add j) = some u) := fun j u hu => by
        rw [show (⟨wr.heap.size + 1, 0, none⟩ : Addr).add j = ⟨wr.heap.size + 1, j, none⟩ by unfold Addr.add; split <;> simp_all]
        have := (Blk.new (wr.alloc (.cells #[.int .u32 (p : Nat), str t] 180)) 180 #[.int .u32 (k : Nat), str t]).cell j
        rw [World.size_alloc] at this
        rw [this]
        simpa using hu
      clear hO
      go_wp2_with (at_builtin; refine wpList_append_own _ rfl _ _ 243 rfl w1.heap.size 180 j0 (.agg #[.int .u32 0, .string ⟨#[]⟩]) 2 24 Tryz.underlying243 hj hy0 hy1 hy2 rfl (by decide) _ _ _ rfl HO.out ⟨wr.heap.size + 1, 0, none⟩ 1 1 [.int .u32 (k : Nat), str t] rfl rfl hnews.out (fun x hx => by simp at hx; rcases hx with rfl | rfl <;> rfl) (by unfold maxLen; omega) (by omega) (by simp; omega) ?_)
      intro v' w6 hown hgrow hnil
      have hb6 := hbr2.grown hgrow hbr2.size (fun r e => Nat.le_trans hs1 (HO.out.lt r e).1)
      have hs6 : w1.heap.size ≤ w6.heap.size := by have := hgrow.size; simp at this; omega
      have HW := Lib.hid hown
      obtain ⟨g7, c7, rfl⟩ := own_form hown
      clear hnil hown hgrow
      go_wp2_with fail
      go_roundw
      case rel => exact ⟨k + 1, hmeas, by go_num, by rw [HSN.out]; exact HW.out, hb6, hs6⟩
      case measure => simp [intOf]; omega
    · obtain rfl : k = l.length := by omega
      rw [List.take_of_length_le (by rw [Sp.areaOf_length]; exact Nat.le_refl _)] at hO
      obtain ⟨ga, ca, rfl⟩ := own_form' hO h1
      have hra := own_reads hO
      rw [← Sp.areaOf_length l] at hra
      have hlz := Sp.areaOf_length l
      have hpa : ∀ x ∈ Sp.areaOf l, x.1 < 4294967296 ∧ x.2.length = 512 := by
        intro x hx
        obtain ⟨k, hk, rfl⟩ := List.mem_iff_getElem.1 hx
        have hk' : k < l.length := by omega
        have e := Sp.areaOf_get l k hk'
        rw [List.getElem?_eq_getElem hk, Option.some.injEq] at e
        rw [e]
        exact ⟨by show k < _; omega, (HP.out _ (List.getElem_mem hk')).2.1⟩
      have hh1 := twin_homes g (at_ + 1) hra (by omega) hpa (by omega) (c := ca)
      rw [show ((at_ + 1 : Nat) : Int) = (at_ : Int) + 1 by omega, hlz] at hh1
      have HH1 := Lib.hid hh1
      clear hh1 hra hpa hlz hO
      go_wp2_with fail
      refine HH1.out.mono ?_
      rintro e wa ⟨v1, fs1, rfl, hO1, hA1, hba⟩
      obtain ⟨g1, c1, rfl⟩ := own_form' hO1 (by omega)
      have hbwa : Below w.heap.size w wa := hbr.trans (hba.mono hbr.size)
      have hsa := hba.size
      have hsw := hbr.size
      have HO1 := Lib.hid hO1
      have HA1 := Lib.hid hA1
      clear hO1 hA1
      go_wp2_with fail
      refine (twin_mark (Reads.below HR.out hbwa) h8 (fun x hx => (HP.out x hx).1)).mono ?_
      rintro e wb ⟨rfl, hbb⟩
      have hbwb : Below w.heap.size w wb := hbwa.trans (hbb.mono hbwa.size)
      have hsb := hbb.size
      have HO2 := Lib.hid (own_below HO1.out hbb)
      have HA2 := Lib.hid (HA1.out.below hbb)
      clear HO1 HA1
      go_wp2_with fail
      refine (twin_marks g at_ (Sp.markBs l)).mono ?_
      rintro e wc ⟨b2, c2, fs2, rfl, hb2, hB2, hl2, hone2, hA2, hbc⟩
      have hbwc : Below w.heap.size w wc := hbwb.trans (hbc.mono hbwb.size)
      have hsc := hbc.size
      have HO3 := Lib.hid (own_below HO2.out hbc)
      have HA3 := Lib.hid ((HA2.out.below hbc).mono (G' := fun b => w.heap.size ≤ b) (fun b (hb : wr.heap.size ≤ b) => Nat.le_trans hsw hb))
      have HA4 := Lib.hid (hA2.mono (G' := fun b => w.heap.size ≤ b) (fun b (hb : wb.heap.size ≤ b) => by show w.heap.size ≤ b; omega))
      have hn2 : Hid (∀ j u, fs2[j]? = some u → wc.cell? ((⟨b2, 0, none⟩ : Addr).add j) = some u) := fun j u hu => by
        rw [add_lit, hB2.cell j]; simpa using hu
      have ho2 := Lib.hid hone2
      have hl2' := Lib.hid hl2
      clear HO2 HA2 hA2 hone2 hB2 hl2
      go_wp2_with (at_builtin; refine wpList_append_own _ rfl _ _ 210 rfl wr.heap.size 143 i0 .nilFunc 1 8 Tryz.underlying210 hi hz0 hz1 hz2 rfl (by decide) _ _ _ rfl HO3.out ⟨b2, 0, none⟩ 2 c2 fs2 rfl hl2'.out hn2.out ho2.out (by unfold maxLen; omega) (by omega) (by omega) ?_)
      intro v4 wd hown4 hgrow4 _
      have HA5 := Lib.hid ((HA3.out.grown hgrow4 (own_blk HO3.out)).app (HA4.out.grown hgrow4 (own_blk HO3.out)))
      have hbwd : Below w.heap.size w wd := hbwc.grown hgrow4 hbwc.size (fun r e => Nat.le_trans hsw (HO3.out.lt r e).1)
      have hsd := hgrow4.size
      have HO4 := Lib.hid hown4
      obtain ⟨g4, c4, rfl⟩ := own_form' hown4 (by omega)
      clear hown4 hgrow4 HA3 HA4 HO3 hn2 ho2 hl2'
      have HH2 := Lib.hid (twin_homes g base (Reads.below HR.out hbwd) (by omega) (fun x hx => ⟨(HP.out x hx).1, (HP.out x hx).2.1⟩) (by omega) (c := c))
      go_wp2_with fail
      refine HH2.out.mono ?_
      rintro e we ⟨v5, fs5, rfl, hO5, hA5, hbe⟩
      obtain ⟨g5, c5, rfl⟩ := own_form' hO5 (by omega)
      have hbwe : Below w.heap.size w we := hbwd.trans (hbe.mono hbwd.size)
      have hse := hbe.size
      have HO6 := Lib.hid (own_below HO4.out hbe)
      have HA6 := Lib.hid (HA5.out.below hbe)
      have HA7 := Lib.hid (hA5.mono (G' := fun b => w.heap.size ≤ b) (fun b (hb : wd.heap.size ≤ b) => by show w.heap.size ≤ b; omega))
      have hl5 := Lib.hid hO5.1
      have hn5 : Hid (∀ j u, fs5[j]? = some u → we.cell? ((⟨g5, 0, none⟩ : Addr).add j) = some u) := hO5.cells (g := g5) rfl
      have ho5 := Lib.hid hA5.one_
      clear HO4 HA5 hO5 hA5 HH2
      go_wp2_with (at_builtin; refine wpList_append_own _ rfl _ _ 210 rfl wr.heap.size 143 i0 .nilFunc 1 8 Tryz.underlying210 hi hz0 hz1 hz2 rfl (by decide) _ _ _ rfl HO6.out ⟨g5, 0, none⟩ (l.length * 4 + 1) c5 fs5 rfl hl5.out hn5.out ho5.out (by unfold maxLen; omega) (by omega) (by omega) ?_)
      intro v6 wf hown6 hgrow6 _
      have HA8 := Lib.hid ((HA6.out.grown hgrow6 (own_blk HO6.out)).app (HA7.out.grown hgrow6 (own_blk HO6.out)))
      have hbwf : Below w.heap.size w wf := hbwe.grown hgrow6 hbwe.size (fun r e => Nat.le_trans hsw (HO6.out.lt r e).1)
      have hsf := hgrow6.size
      have HO8 := Lib.hid hown6
      obtain ⟨g6, c6, rfl⟩ := own_form' hown6 (by omega)
      clear hown6 hgrow6 HA6 HA7 HO6 hn5 ho5 hl5
      go_wp2_with fail
      refine (twin_clear _).mono ?_
      rintro e wg ⟨rfl, hbg⟩
      have hbwg : Below w.heap.size w wg := hbwf.trans (hbg.mono hbwf.size)
      have hsg := hbg.size
      have HO9 := Lib.hid (own_below HO8.out hbg)
      have HA9 := Lib.hid (HA8.out.below hbg)
      clear HO8 HA8
      go_wp2_with fail
      refine (twin_marks g at_ (Sp.zeros 128)).mono ?_
      rintro e wh ⟨b7, c7, fs7, rfl, hb7, hB7, hl7, hone7, hA7, hbh⟩
      have hbwh : Below w.heap.size w wh := hbwg.trans (hbh.mono hbwg.size)
      have hsh := hbh.size
      have HO10 := Lib.hid (own_below HO9.out hbh)
      have HA10 := Lib.hid (HA9.out.below hbh)
      have HA11 := Lib.hid (hA7.mono (G' := fun b => w.heap.size ≤ b) (fun b (hb : wg.heap.size ≤ b) => by show w.heap.size ≤ b; omega))
      have hn7 : Hid (∀ j u, fs7[j]? = some u → wh.cell? ((⟨b7, 0, none⟩ : Addr).add j) = some u) := fun j u hu => by
        rw [add_lit, hB7.cell j]; simpa using hu
      have ho7 := Lib.hid hone7
      have hl7' := Lib.hid hl7
      clear HO9 HA9 hA7 hone7 hB7 hl7
      go_wp2_with (at_builtin; refine wpList_append_own _ rfl _ _ 210 rfl wr.heap.size 143 i0 .nilFunc 1 8 Tryz.underlying210 hi hz0 hz1 hz2 rfl (by decide) _ _ _ rfl HO10.out ⟨b7, 0, none⟩ 2 c7 fs7 rfl hl7'.out hn7.out ho7.out (by unfold maxLen; omega) (by omega) (by omega) ?_)
      intro v8 wi hown8 hgrow8 _
      have hA12 := ((HA10.out.grown hgrow8 (own_blk HO10.out)).app (HA11.out.grown hgrow8 (own_blk HO10.out))).lt
      have hbwi : Below w.heap.size w wi := hbwh.grown hgrow8 hbwh.size (fun r e => Nat.le_trans hsw (HO10.out.lt r e).1)
      have hEQ : ((Sp.homesActs (at_ + 1) (Sp.areaOf l) ++ [.sync]) ++ [.wr at_ (Sp.markBs l), .sync]) ++ (Sp.homesActs base l ++ [.sync]) ++ [.wr at_ (Sp.zeros 128), .sync] = Sp.twinActs at_ base l := rfl
      rw [hEQ] at hA12
      simp only [List.append_assoc] at hA12 hown8
      clear hEQ
      have hlen8 := hown8.1
      obtain ⟨g8, c8, rfl⟩ := own_form' hown8 (by omega)
      have hr8 := (own_reads hown8).lt.mono (G' := fun b => w.heap.size ≤ b ∧ b < wi.heap.size) (fun b (hb : wr.heap.size ≤ b ∧ b < wi.heap.size) => ⟨Nat.le_trans hsw hb.1, hb.2⟩)
      have hD8 : IsDk F wi g d := HD.out.keep (fun b hb => hbwi.block b (HIN.out b hb))
      rw [Nat.mul_one] at hlen8
      rw [← hlen8] at hr8
      have hst := twin_steps hD8 HF.out (c := c8) hr8 hA12 (fun b hb => ⟨hb.2, fun hF => by have := HIN.out b hF; have := hb.1; omega⟩) (Sp.twinActs_ok h8 (fun x hx => (HP.out x hx).2) ha) (by
        have := Sp.twinActs_length at_ base l
        omega)
      rw [hlen8] at hst
      have hT8 : Turns F F w wi := ⟨hbwi.os, hbwi.tape, hbwi.output, hbwi.size, fun b hb _ => hbwi.block b hb, fun _ hb => .inl hb⟩
      have HST := Lib.hid hst
      have HT8 := Lib.hid hT8
      clear hst hr8 hD8 hA12 hown8 hgrow8 hT8 hlen8
      go_wp2_with fail
      refine HST.out.mono ?_
      rintro e wj ⟨F', rfl, hDj, htj⟩
      have HDJ := Lib.hid hDj
      have HTJ := Lib.hid (HT8.out.trans htj)
      clear hDj htj
      go_wp2_with fail
      go_ret
      exact ⟨F', rfl, HDJ.out, HTJ.out⟩
end Go.Proofs.YtclpmkinjjhncaaGreat

/- The walks of package log: may, New. -/
namespace Go.Proofs.YtclpmkinjjhncaaGreat
open Go.RowKit

set_option maxRecDepth 100000 in
set_option maxHeartbeats 2000000 in
theorem log_may {F : Foot} {w : World} {g : Nat} {d : Sp.Dk} (h : IsDk F w g d) (at_ n life : Nat) (h1 : 4 ≤ n) (h2 : n ≤ 4096) (h3 : at_ + n ≤ d.sure.length) (h4 : 1 ≤ life) :
    Calls Tryz.prog 67 #[ptr g, .int .i64 at_, .int .i64 n, .int .u64 life] w fun e w' => e = .returned (.int .i64 0) ∧ w' = w := by
  have hfew := h.wf.few
  have HL := Lib.hid (disk_len h)
  have d1 : decide ((at_ : Int) < 0) = false := by simp
  have d2 : decide ((n : Int) < 4) = false := by rw [decide_eq_false_iff_not]; omega
  have d3 : decide ((4096 : Int) < n) = false := by rw [decide_eq_false_iff_not]; omega
  have d4 : decide ((d.sure.length : Int) - n < at_) = false := by rw [decide_eq_false_iff_not]; omega
  have d5 : ((life : Int) == 0) = false := by simp; omega
  clear h
  go_enter Tryz.func67, Tryz.ntmps67
  go_wp2_with fail
  refine HL.out.mono ?_
  rintro e w1 ⟨rfl, hw⟩
  subst w1
  go_wp2_with fail
  go_ret
  exact ⟨rfl, rfl⟩

/-- The struct of a log. -/
abbrev lgCells (g at_ n life : Nat) (bv sv : Value) (first next forced reserved : Nat) : Array Value :=
  #[ptr g, .int .i64 at_, .int .i64 n, .int .u64 life, bv, sv, .int .u64 first, .int .u64 next, .int .u64 forced, .int .i64 reserved]

set_option maxRecDepth 100000 in
set_option maxHeartbeats 2000000 in
theorem log_new {F : Foot} {w : World} {g : Nat} {d : Sp.Dk} (h : IsDk F w g d) (at_ n life : Nat) (h1 : 4 ≤ n) (h2 : n ≤ 4096) (h3 : at_ + n ≤ d.sure.length) (h4 : 1 ≤ life) :
    Calls Tryz.prog 98 #[ptr g, .int .i64 at_, .int .i64 n, .int .u64 life] w fun e w' => e = .returned (.tuple #[ptr w.heap.size, .int .i64 0]) ∧
      w' = w.alloc (.cells (lgCells g at_ n life (.slice none 0 0) (.slice none 0 0) 110 110 110 0) 105) := by
  have HL := Lib.hid (log_may h at_ n life h1 h2 h3 h4)
  clear h
  go_enter Tryz.func98, Tryz.ntmps98
  go_wp2_with fail
  refine HL.out.mono ?_
  rintro e w1 ⟨rfl, hw⟩
  subst w1
  go_wp2_with fail
  go_ret2
  exact ⟨rfl, rfl⟩
end Go.Proofs.YtclpmkinjjhncaaGreat

/- Channels in one goroutine, beside the walk: a code's contract where it communicates (in a frame that is no early one). No program is named here. -/
namespace Go.Proofs.YtclpmkinjjhncaaGreat
open Go.RowKit Go.Conc

def wpN (P : Program) (c : Code) (Q : Exit → Act → World → Prop) (a : Act) (w : World) : Prop :=
  ∀ (b : Frame) (k : List Item) (cs : List Frame), b.kind ≠ .early →
    ∃ e a' w', Q e a' w' ∧ Arrives P (lone (b.at a (.code c :: k)) cs w) b k cs e a' w'

section
variable {P : Program} {Q : Exit → Act → World → Prop} {a : Act} {w : World}

theorem wpN_of_wp {c : Code} (h : c.wp P Q a w) : wpN P c Q a w := fun b k cs _ => h b k cs

theorem wpN_mono {c : Code} {Q' : Exit → Act → World → Prop} (h : wpN P c Q a w) (hq : ∀ e a w, Q e a w → Q' e a w) : wpN P c Q' a w :=
  fun b k cs hb => let ⟨e, a', w', q, r⟩ := h b k cs hb; ⟨e, a', w', hq _ _ _ q, r⟩

theorem wpN_seq {x y : Code} (h : wpN P x (Exit.then (wpN P y Q) Q) a w) : wpN P (Code.seq x y) Q a w := by
  intro b k cs hb
  obtain ⟨e, a₁, w₁, hq, harr⟩ := h b (.code y :: k) cs hb
  cases e with
  | normal =>
    obtain ⟨e₂, a₂, w₂, hq₂, harr₂⟩ := hq b k cs hb
    exact ⟨e₂, a₂, w₂, hq₂, .of_steps (.head step_seq harr) harr₂⟩
  | exit id => exact ⟨_, a₁, w₁, hq, .of_steps (.one step_seq) (.pass (x := .code y) rfl (fun _ _ => .inl (by simp)) harr)⟩
  | goto l => exact ⟨_, a₁, w₁, hq, .of_steps (.one step_seq) (.pass (x := .code y) rfl (fun _ _ => .inl (by simp)) harr)⟩
  | ret => exact ⟨_, a₁, w₁, hq, .of_steps (.one step_seq) (.pass (x := .code y) rfl (fun _ _ => .inl (by simp)) harr)⟩
  | panic ch => exact ⟨_, a₁, w₁, hq, .of_steps (.one step_seq) (.pass (x := .code y) rfl (fun _ _ => .inl (by simp)) harr)⟩
  | outgrown => exact ⟨_, a₁, w₁, hq, .of_steps (.one step_seq) (.pass (x := .code y) rfl (fun _ _ => .inl (by simp)) harr)⟩

/-- The first part by the walk. -/
theorem wpN_seq_k {x y : Code} (h : ∀ K : Act → World → Prop, (∀ a w, wpN P y Q a w → K a w) → x.wp P (Exit.then K Q) a w) : wpN P (Code.seq x y) Q a w :=
  wpN_seq (wpN_of_wp (h _ fun _ _ h => h))

theorem wpN_cond {c : Operand} {x y : Code} {t : Bool} (hc : a.eval c = .bool t) (h : wpN P (if t then x else y) Q a w) : wpN P (Code.cond c x y) Q a w :=
  fun b k cs hb => let ⟨e, a', w', q, r⟩ := h b k cs hb; ⟨e, a', w', q, .of_steps (.one (step_cond hc)) r⟩

theorem wpN_block {id : Nat} {c : Code} (h : wpN P c (Exit.inBlock id Q) a w) : wpN P (Code.block id c) Q a w := by
  intro b k cs hb
  obtain ⟨e, a₁, w₁, hq, harr⟩ := h b (.inBlock id :: k) cs hb
  cases e with
  | normal => exact ⟨.normal, a₁, w₁, hq, .head step_block (Steps.trans harr (.one step_inBlock))⟩
  | exit id' =>
    by_cases hid : id' = id
    · simp only [Exit.inBlock, hid, if_true] at hq
      exact ⟨.normal, a₁, w₁, hq, .head step_block (harr k (by simp [exitTo, hid]))⟩
    · simp only [Exit.inBlock, hid, if_false] at hq
      refine ⟨.exit id', a₁, w₁, hq, fun k' hk => .head step_block (harr k' ?_)⟩
      have : (id == id') = false := by simp; exact fun h => hid h.symm
      simp [exitTo, this, hk]
  | goto l => exact ⟨_, a₁, w₁, hq, fun k' hk => .head step_block (harr k' (by simp [gotoIn, hk]))⟩
  | ret => exact ⟨_, a₁, w₁, hq, .of_steps (.one step_block) harr⟩
  | panic ch => exact ⟨_, a₁, w₁, hq, .of_steps (.one step_block) harr⟩
  | outgrown => exact ⟨_, a₁, w₁, hq, .of_steps (b := b) (k := k) (cs := cs) (e := .outgrown) (.one step_block) harr⟩

theorem wpN_loop {c : Code} (I : Act → World → Prop) (μ : Act → World → Nat) (h₀ : I a w)
    (round : ∀ a w, I a w → wpN P c (Exit.then (fun a' w' => I a' w' ∧ μ a' w' < μ a w) Q) a w) : wpN P (Code.loop c) Q a w := by
  intro b k cs hb
  have key : ∀ n a w, μ a w = n → I a w →
      ∃ e a' w', Q e a' w' ∧ Arrives P (lone (b.at a (.code c :: .inLoop c :: k)) cs w) b k cs e a' w' := by
    intro n
    induction n using Nat.strongRecOn with
    | _ n ih =>
      intro a w hn hI
      obtain ⟨e, a₁, w₁, hq, harr⟩ := round a w hI b (.inLoop c :: k) cs hb
      cases e with
      | normal =>
        obtain ⟨hI₁, hlt⟩ := hq
        obtain ⟨e₂, a₂, w₂, hq₂, harr₂⟩ := ih (μ a₁ w₁) (hn ▸ hlt) a₁ w₁ rfl hI₁
        exact ⟨e₂, a₂, w₂, hq₂, .of_steps (Steps.trans harr (.one step_inLoop)) harr₂⟩
      | exit id => exact ⟨_, a₁, w₁, hq, .pass (x := .inLoop c) rfl (fun _ _ => .inl (by simp)) harr⟩
      | goto l => exact ⟨_, a₁, w₁, hq, .pass (x := .inLoop c) rfl (fun _ _ => .inl (by simp)) harr⟩
      | ret => exact ⟨_, a₁, w₁, hq, .pass (x := .inLoop c) rfl (fun _ _ => .inl (by simp)) harr⟩
      | panic ch => exact ⟨_, a₁, w₁, hq, .pass (x := .inLoop c) rfl (fun _ _ => .inl (by simp)) harr⟩
      | outgrown => exact ⟨_, a₁, w₁, hq, .pass (x := .inLoop c) rfl (fun _ _ => .inl (by simp)) harr⟩
  obtain ⟨e, a', w', hq, harr⟩ := key _ a w rfl h₀
  exact ⟨e, a', w', hq, .of_steps (.one step_loop) harr⟩

theorem calls_of_wpN {f : FuncId} {fn : Func} {c : Code} {args : Array Value} {w : World} {R : Ending → World → Prop}
    (hf : P.funcs[f]? = some fn) (hb : fn.body = some c)
    (h : wpN P c (bodyPost P fn R) { tmps := args ++ Array.replicate (fn.ntmps - args.size) undef, defers := [] } w) :
    Calls P f args w R := by
  intro cs
  let b : Frame := { (default : Frame) with fn := f, kind := .normal }
  have henter : Frame.enter P f args .normal =
      b.at { tmps := args ++ Array.replicate (fn.ntmps - args.size) undef, defers := [] } [.code c] := by
    simp [Frame.enter, Frame.at, hf, hb, b]
  obtain ⟨e, a', w', hq, harr⟩ := h b [] cs (by simp [b])
  rw [← henter] at harr
  cases e with
  | normal =>
    obtain ⟨hd, v, hr, hR⟩ := hq
    exact ⟨.returned v, w', _, hR, Steps.trans harr (.one step_end), rfl, rfl, hd, rfl, fn, hf, hr⟩
  | ret =>
    obtain ⟨hd, v, hr, hR⟩ := hq
    obtain ⟨todo, hs⟩ := harr
    exact ⟨.returned v, w', _, hR, hs, rfl, rfl, hd, rfl, fn, hf, hr⟩
  | panic chain =>
    obtain ⟨hd, hR⟩ := hq
    obtain ⟨todo, hs⟩ := harr
    exact ⟨.panicked chain, w', _, hR, hs, rfl, rfl, hd, fn, hf⟩
  | exit id => exact hq.elim
  | goto l => exact hq.elim
  | outgrown => exact ⟨.outgrown, w', b, hq, harr.resolve_left (by simp [b]), rfl, trivial⟩

/-! ### A region that communicates -/
def wpT (P : Program) (ops : Array Oper) (Q : Exit → Act → World → Prop) (rest : List Nat) (a : Act) (w : World) : Prop :=
  ∀ (b : Frame) (k : List Item) (cs : List Frame), b.kind ≠ .early → ∃ e a' w', Q e a' w' ∧ Arrives P (lone (b.at a (.inRegion ops rest :: k)) cs w) b k cs e a' w'

variable {ops : Array Oper} {rest : List Nat}
theorem wpN_region {id : Nat} (h : wpT P ops Q (List.range ops.size) a w) : wpN P (Code.region id ops false) Q a w :=
  fun b k cs hb => let ⟨e, a', w', q, r⟩ := h b k cs hb; ⟨e, a', w', q, .of_steps (.one step_region) r⟩

theorem T_done (h : Q .normal a w) : wpT P ops Q [] a w := fun _ _ _ _ => ⟨.normal, a, w, h, .one step_region_end⟩

theorem T_value (i : Nat) (t : Tmp) {v : Value} {w' : World} {o : Oper} (hi : ops[i]? = some o) (hd : o.dst = some t) (hw : Region.wanted o (yielded ops a.tmps) = true) (hy : (execOp a.eval o).run P w = .ok (.value v) w')
    (h : wpT P ops Q rest { tmps := a.tmps.setIfInBounds t v, defers := a.defers } w') : wpT P ops Q (i :: rest) a w := by
  intro b k cs hb
  obtain ⟨e, a', w'', hq, harr⟩ := h b k cs hb
  have hg := stepG_op (P := P) (b := b) (k := k) (cs := cs) (w := w) (rest := rest) hi hw
  have hfin : (b.at a (.inRegion ops (i :: rest) :: k)).finish v = b.at { tmps := a.tmps.setIfInBounds t v, defers := a.defers } (.inRegion ops rest :: k) := by
    rw [Frame.finish_at, hi]
    simp only [Option.bind_some, hd, Act.put]
  refine ⟨e, a', w'', hq, .of_steps (.one (step_lone_go ?_)) harr⟩
  rw [hg, ← hfin]; simp [stepG.apply, hy]

theorem T_send (i : Nat) {c cap s r : Nat} {buf : Array Value} {v z : Value} {tm : Bool} {w' : World} {o : Oper} (hi : ops[i]? = some o) (hd : o.dst = none) (hw : Region.wanted o (yielded ops a.tmps) = true)
    (hy : (execOp a.eval o).run P w = .ok (.comm #[scase c v z] true .send) w') (hc : w'.heap[c]? = some (.chan cap buf false s r tm)) (hroom : buf.size < cap)
    (h : wpT P ops Q rest a (w'.setChan c cap (buf.push v) false (s + 1) r tm)) : wpT P ops Q (i :: rest) a w := by
  intro b k cs hb
  obtain ⟨e, a', w'', hq, harr⟩ := h b k cs hb
  have hs := step_lone_send_room (stepG_comm (P := P) (b := b) (k := k) (cs := cs) (rest := rest) (main := true) hi hw hb hy) hc hroom
  rw [Frame.finish_at, hi, Option.bind_some, hd] at hs
  exact ⟨e, a', w'', hq, .of_steps (.one hs) harr⟩

theorem T_recv (i : Nat) (t : Tmp) {c cap s r : Nat} {buf : Array Value} {z : Value} {closed tm : Bool} {w' : World} {o : Oper} (hi : ops[i]? = some o) (hd : o.dst = some t) (hw : Region.wanted o (yielded ops a.tmps) = true)
    (hy : (execOp a.eval o).run P w = .ok (.comm #[rcase c z] true (.recv false)) w') (hc : w'.heap[c]? = some (.chan cap buf closed s r tm)) (hsome : 0 < buf.size)
    (h : wpT P ops Q rest { tmps := a.tmps.setIfInBounds t (buf.getD 0 undef), defers := a.defers } (w'.setChan c cap (buf.extract 1 buf.size) closed s (r + 1) tm)) : wpT P ops Q (i :: rest) a w := by
  intro b k cs hb
  obtain ⟨e, a', w'', hq, harr⟩ := h b k cs hb
  have hs := step_lone_recv_buf false (stepG_comm (P := P) (b := b) (k := k) (cs := cs) (rest := rest) (main := true) hi hw hb hy) hc hsome
  rw [Frame.finish_at, hi, Option.bind_some, hd] at hs
  exact ⟨e, a', w'', hq, .of_steps (.one hs) harr⟩

theorem T_select_recv (i : Nat) (t : Tmp) {c cap s r : Nat} {buf : Array Value} {z : Value} {closed tm : Bool} {w' : World} {o : Oper} (hi : ops[i]? = some o) (hd : o.dst = some t) (hw : Region.wanted o (yielded ops a.tmps) = true)
    (hy : (execOp a.eval o).run P w = .ok (.comm #[rcase c z] false .select) w') (hc : w'.heap[c]? = some (.chan cap buf closed s r tm)) (hsome : 0 < buf.size)
    (h : wpT P ops Q rest { tmps := a.tmps.setIfInBounds t (.tuple #[goInt 0, .bool true, buf.getD 0 undef]), defers := a.defers } (w'.setChan c cap (buf.extract 1 buf.size) closed s (r + 1) tm)) : wpT P ops Q (i :: rest) a w := by
  intro b k cs hb
  obtain ⟨e, a', w'', hq, harr⟩ := h b k cs hb
  have hs := step_lone_select_recv_buf (stepG_comm (P := P) (b := b) (k := k) (cs := cs) (rest := rest) (main := true) hi hw hb hy) hc hsome
  rw [Frame.finish_at, hi, Option.bind_some, hd] at hs
  exact ⟨e, a', w'', hq, .of_steps (.one hs) harr⟩

theorem T_select_default (i : Nat) (t : Tmp) {c cap s r : Nat} {z : Value} {tm : Bool} {w' : World} {o : Oper} (hi : ops[i]? = some o) (hd : o.dst = some t) (hw : Region.wanted o (yielded ops a.tmps) = true)
    (hy : (execOp a.eval o).run P w = .ok (.comm #[rcase c z] false .select) w') (hc : w'.heap[c]? = some (.chan cap #[] false s r tm))
    (h : wpT P ops Q rest { tmps := a.tmps.setIfInBounds t (.tuple #[goInt (-1), .bool false, z]), defers := a.defers } w') : wpT P ops Q (i :: rest) a w := by
  intro b k cs hb
  obtain ⟨e, a', w'', hq, harr⟩ := h b k cs hb
  have hs := step_lone_select_default (stepG_comm (P := P) (b := b) (k := k) (cs := cs) (rest := rest) (main := true) hi hw hb hy) hc
  rw [Frame.finish_at, hi, Option.bind_some, hd] at hs
  exact ⟨e, a', w'', hq, .of_steps (.one hs) harr⟩
end
end Go.Proofs.YtclpmkinjjhncaaGreat

/- A pool in memory; New. -/
namespace Go.Proofs.YtclpmkinjjhncaaGreat
open Go.RowKit

namespace Sp
/-- A page that is in: in which frame, how often it is pinned. -/
structure It where
  page : Pg
  pins : Nat
  dirty : Bool
  from_ : Nat
  idx : Nat
/-- A pool: its pages, who was pinned last stands last; the frames that are free. -/
structure Pl where
  n : Nat
  items : List It
  free : List Nat
def Pl.find (p : Pl) (id : Nat) : Option It := p.items.find? (fun it => it.page.id == id)
def Pl.lk (p : Pl) : Nat → Option Nat := fun id => (p.find id).map (·.idx)
structure Pl.wf (p : Pl) : Prop where
  n1 : 1 ≤ p.n
  n64 : p.n ≤ 64
  idx : (p.free ++ p.items.map (·.idx)).Perm (List.range p.n)
  ids : (p.items.map (·.page.id)).Nodup
  pg : ∀ it ∈ p.items, it.page.wf ∧ it.page.may
  small : ∀ it ∈ p.items, it.pins ≤ 1000000000 ∧ it.from_ < 18446744073709551616
end Sp

def frCells (it : Sp.It) (A : Option Addr) (c : Nat) : List Value :=
  [.int .u8 it.page.kind, .int .u8 it.page.level, .int .u32 it.page.id, .int .u64 it.page.lsn, .int .u32 it.page.next, .slice A it.page.rows.length c, .int .i64 it.pins, .bool it.dirty, .int .u64 it.from_]
def zeroFr : List Value := [.int .u8 0, .int .u8 0, .int .u32 0, .int .u64 0, .int .u32 0, .slice none 0 0, .int .i64 0, .bool false, .int .u64 0]

abbrev plCells (gd gl at_ base fb n cb mb : Nat) (v : Value) : Array Value :=
  #[ptr gd, ptr gl, .int .i64 at_, .int .i64 base, .slice (some ⟨fb, 0, none⟩) n n, .chan (some cb), .map (some mb), v]

/-- The frames' cells. -/
structure IsFr (R : Foot) (w : World) (fb : Nat) (p : Sp.Pl) (cs : Array Value) : Prop where
  blk : Blk w fb 123 cs
  size : cs.size = p.n * 9
  item : ∀ it ∈ p.items, ∃ A c, OkAddr A ∧ RowsAt R w A it.page.rows ∧ ∀ j, j < 9 → cs[it.idx * 9 + j]? = (frCells it A c)[j]?
  free : ∀ i ∈ p.free, ∀ j, j < 9 → cs[i * 9 + j]? = zeroFr[j]?

/-- The parts of a pool in memory; fl: which frames the channel has, ids: the row (while a call is under way they are not yet those of p). -/
structure IsPlAt (F R : Foot) (w : World) (gp gd gl at_ base fb cb mb : Nat) (v : Value) (s r : Nat) (cs : Array Value) (fl ids : List Nat) (p : Sp.Pl) : Prop where
  wf : p.wf
  blk : Blk w gp 121 (plCells gd gl at_ base fb p.n cb mb v)
  fr : IsFr R w fb p cs
  chan : w.heap[cb]? = some (.chan p.n (fl.map fun (i : Nat) => Value.int .i64 (i : Int)).toArray false s r false)
  map : UMap Tryz.prog 25 3 w mb p.items.length p.lk
  row : w.ownsRow 0 25 1 v ids.length (ids.map fun (i : Nat) => Value.int .u32 (i : Int))
  foot : F gp ∧ F fb ∧ F cb ∧ F mb ∧ ∀ b, v.ownBlock = some b → F b
  rows : ∀ b, R b → F b ∧ b ≠ gp ∧ b ≠ fb ∧ b ≠ cb ∧ b ≠ mb ∧ v.ownBlock ≠ some b
  lt : ∀ b, F b → b < w.heap.size

/-- A pool in memory: its struct in block gp; F is all its blocks. -/
def IsPl (F : Foot) (w : World) (gp gd gl at_ base : Nat) (p : Sp.Pl) : Prop :=
  ∃ R fb cb mb v s r cs, IsPlAt F R w gp gd gl at_ base fb cb mb v s r cs p.free (p.items.map (·.page.id)) p

theorem IsFr.keep {R : Foot} {w w' : World} {fb : Nat} {p : Sp.Pl} {cs : Array Value} (h : IsFr R w fb p cs) (hs : w.heap.size ≤ w'.heap.size) (hf : w'.heap[fb]? = w.heap[fb]?) (hk : ∀ b, R b → w'.heap[b]? = w.heap[b]?) : IsFr R w' fb p cs :=
  ⟨h.blk.keep hf, h.size, fun it hit => by
    obtain ⟨A, c, hA, hR, hc⟩ := h.item it hit
    exact ⟨A, c, hA, hR.keep hs hk, hc⟩, h.free⟩

theorem IsPlAt.keep {F R : Foot} {w w' : World} {gp gd gl at_ base fb cb mb s r : Nat} {v : Value} {cs : Array Value} {fl ids : List Nat} {p : Sp.Pl} (h : IsPlAt F R w gp gd gl at_ base fb cb mb v s r cs fl ids p) (hs : w.heap.size ≤ w'.heap.size)
    (hk : ∀ b, F b → w'.heap[b]? = w.heap[b]?) : IsPlAt F R w' gp gd gl at_ base fb cb mb v s r cs fl ids p := by
  obtain ⟨f1, f2, f3, f4, f5⟩ := h.foot
  refine ⟨h.wf, h.blk.keep (hk _ f1), h.fr.keep hs (hk _ f2) (fun b hb => hk b (h.rows b hb).1), (hk _ f3).trans h.chan, h.map.keep (hk _ f4), ⟨h.row.1, ?_⟩, h.foot, h.rows, fun b hb => Nat.lt_of_lt_of_le (h.lt b hb) hs⟩
  rcases h.row.2 with h' | ⟨b, cap, cur, rfl, hb, hh, rest⟩
  · exact .inl h'
  · exact .inr ⟨b, cap, cur, rfl, hb, (hk b (f5 b rfl)).trans hh, rest⟩
theorem IsPl.keep {F : Foot} {w w' : World} {gp gd gl at_ base : Nat} {p : Sp.Pl} (h : IsPl F w gp gd gl at_ base p) (hs : w.heap.size ≤ w'.heap.size) (hk : ∀ b, F b → w'.heap[b]? = w.heap[b]?) : IsPl F w' gp gd gl at_ base p := by
  obtain ⟨R, fb, cb, mb, v, s, r, cs, h⟩ := h
  exact ⟨R, fb, cb, mb, v, s, r, cs, h.keep hs hk⟩
theorem IsPl.lt {F : Foot} {w : World} {gp gd gl at_ base : Nat} {p : Sp.Pl} (h : IsPl F w gp gd gl at_ base p) : ∀ b, F b → b < w.heap.size := by
  obtain ⟨R, fb, cb, mb, v, s, r, cs, h⟩ := h
  exact h.lt
theorem IsPl.below {F : Foot} {w w' : World} {gp gd gl at_ base : Nat} {p : Sp.Pl} (h : IsPl F w gp gd gl at_ base p) (hb : Below w.heap.size w w') : IsPl F w' gp gd gl at_ base p :=
  h.keep hb.size (fun b hF => hb.block b (h.lt b hF))
theorem IsPl.wf {F : Foot} {w : World} {gp gd gl at_ base : Nat} {p : Sp.Pl} (h : IsPl F w gp gd gl at_ base p) : p.wf := by
  obtain ⟨R, fb, cb, mb, v, s, r, cs, h⟩ := h
  exact h.wf

def zeroFrA : Value := .agg zeroFr.toArray
theorem fr_info : (Tryz.prog.info? 123).map (fun i => (i.zero, i.size, i.bytes)) = some (some zeroFrA, 9, 72) := by kernel_rfl
theorem int_info2 : (Tryz.prog.info? 3).map (fun i => (i.zero, i.size, i.bytes)) = some (some (.int .i64 0), 1, 8) := by kernel_rfl

theorem made_at (n j : Nat) (i : Nat) (hi : i < n) (hj : j < 9) : (madeCells zeroFrA.cells (n * 9))[i * 9 + j]? = zeroFr[j]? := by
  unfold madeCells
  have e : zeroFrA.cells = zeroFr.toArray := rfl
  have hlt : i * 9 + j < n * 9 := by omega
  have hm : (i * 9 + j) % 9 = j := by omega
  rw [e]
  simp only [zeroFr, List.size_toArray, List.length_cons, List.length_nil, Nat.reduceAdd]
  simp [hlt, hm]
  match j, hj with
  | 0, _ | 1, _ | 2, _ | 3, _ | 4, _ | 5, _ | 6, _ | 7, _ | 8, _ => rfl
end Go.Proofs.YtclpmkinjjhncaaGreat

/-
  DERIVED: THE SHELF's CONTRACTS AT THIS DUMP, IN PLAIN WORDS (tools/lay-plain.mjs out of 'TryzShel2.lean', which tools/lay-shelf.mjs wrote): THE SAME DECLARATIONS UNDER THE SAME NAMES: 'import', 'namespace', 'open', 'def', 'theorem' AND NOTHING ELSE: no command of the shelf's: FOR A HAND-IN. Each laying: the table of numbers ('.._ren') and one theorem, a field a fact of the dump's own or the kernel's comparison; each contract: ONE APPLICATION.
-/
namespace Go.Proofs
open Go.Shelf
def Tryz.laysSlE041_f171_ren : Go.Shelf.Ren := ⟨fun | 41 => 171 | n => n, fun | 22 => 26 | 23 => 9 | 4 => 4 | n => n, fun | n => n⟩
theorem Tryz.laysSlE041_f171 : Go.Proofs.SlLaysE0.n41 Tryz.prog Tryz.laysSlE041_f171_ren := {
  mixed := by kernel_rfl
  f41 := ⟨Tryz.f171.name, by decide, Tryz.func171.trans (congrArg some (by kernel_rfl))⟩
  t4 := Tryz.underlying4
  a4 := Tryz.isAgg4
  z4 := Tryz.sizeOf4
  v4 := Tryz.zeroValue4
  t22 := Tryz.underlying26
  a22 := Tryz.isAgg26
  z22 := Tryz.sizeOf26
  v22 := Tryz.zeroValue26 }
open Go.RowKit Go.Lib in
/-- slices.Clone: "Clone returns a copy of the slice. The elements are copied using assignment, so this is a shallow clone. The result may have additional unused capacity. The result preserves the nilness of s.": OF A SLICE THAT IS NOT nil IT RETURNS A SLICE THAT IS NOT nil, OF THE SAME CELLS, IN MEMORY OF THE CALL's OWN ('ownsRow': the how-to's 6f); below the heap's size at the call all is as it was. (LAID AT THE INSTANCE 'slices.Clone[[]string,string]': no walk: one application.) -/
theorem Tryz.slices_Clone_f171 (i0 : TypeInfo) (z : Value) (size bytes : Nat) (hi : Tryz.prog.info? 9 = some i0) (hz0 : i0.zero = some z) (hz1 : i0.size = size) (hz2 : i0.bytes = bytes) (hzs : z.cells.size = size) (hsz : 0 < size) (z23 : ∀ w, (Go.sizeOf 9).run Tryz.prog w = .ok size w) (b off n c : Nat) (news : List Value) (w : World) (hl : news.length = n * size) (hn : n ≤ maxLen) (hbig : n * bytes ≤ 140737488355328) (hc : ∀ j u, news[j]? = some u → w.cell? ⟨b, off + j, none⟩ = some u) (h1 : ∀ u ∈ news, u.oneCell' = true) :
    Calls Tryz.prog 171 #[.slice (some ⟨b, off, none⟩) n c] w fun e w' => ∃ v', e = .returned v' ∧ w'.ownsRow w.heap.size 9 size v' n news ∧ v' ≠ .slice none 0 0 ∧ Below w.heap.size w w' := AnyE.slices_Clone Tryz.laysSlE041_f171 i0 z size bytes hi hz0 hz1 hz2 hzs hsz z23 b off n c news w hl hn hbig hc h1
open Go.RowKit Go.Lib in
/-- The same at nil: nil comes back; the world is as it was; nothing is asked of the element's type. (LAID AT THE INSTANCE 'slices.Clone[[]string,string]': no walk: one application.) -/
theorem Tryz.slices_Clone_nil_f171 (n c : Nat) (w : World) :
    Calls Tryz.prog 171 #[.slice none n c] w fun e w' => e = .returned (.slice none 0 0) ∧ w' = w := AnyE.slices_Clone_nil Tryz.laysSlE041_f171 n c w
def Tryz.laysSlH6_f230_ren : Go.Shelf.Ren := ⟨fun | 6 => 230 | n => n, fun | 22 => 84 | 23 => 25 | 25 => 259 | 3 => 3 | 0 => 0 | 4 => 4 | n => n, fun | n => n⟩
theorem Tryz.laysSlH6_f230 : Go.Proofs.SlLaysH.n6 Tryz.prog Tryz.laysSlH6_f230_ren := {
  mixed := by kernel_rfl
  f6 := ⟨Tryz.f230.name, by decide, Tryz.func230.trans (congrArg some (by kernel_rfl))⟩
  t0 := Tryz.underlying0
  a0 := Tryz.isAgg0
  z0 := Tryz.sizeOf0
  v0 := Tryz.zeroValue0
  t3 := Tryz.underlying3
  a3 := Tryz.isAgg3
  z3 := Tryz.sizeOf3
  v3 := Tryz.zeroValue3
  t4 := Tryz.underlying4
  a4 := Tryz.isAgg4
  z4 := Tryz.sizeOf4
  v4 := Tryz.zeroValue4
  t22 := Tryz.underlying84
  a22 := Tryz.isAgg84
  z22 := Tryz.sizeOf84
  v22 := Tryz.zeroValue84
  a23 := Tryz.isAgg25
  z23 := Tryz.sizeOf25
  t25 := Tryz.underlying259
  a25 := Tryz.isAgg259
  z25 := Tryz.sizeOf259
  v25 := Tryz.zeroValue259 }
open Go.RowKit Go.Lib in
/-- slices.IndexFunc: "IndexFunc returns the first index i satisfying f(s[i]), or -1 if none do." (LAID AT THE INSTANCE 'slices.IndexFunc[[]uint32,uint32]': no walk: one application.) -/
theorem Tryz.slices_IndexFunc_f230 {α : Type} [Inhabited α] (enc : α → Value) (p : α → Bool) (g : Nat) (lb : Array Value) (eg : ∀ args w, (callFunc g args).run Tryz.prog w = .ok (.enter g args) w) (b off n c : Nat) (zs : List α) (w : World) (hp : PredAt Tryz.prog g lb enc p w) (hz : n ≤ zs.length) (hbig : n ≤ 9223372036854775807) (hc : ∀ j, j < zs.length → w.cell? ⟨b, off + j, none⟩ = some (enc zs[j]!)) :
    Calls Tryz.prog 230 #[.slice (some ⟨b, off, none⟩) n c, .func (.func g) #[] lb] w fun e w' => e = .returned (.int .i64 (Lib.idxBy (fun _ y => p y) (zs.take n) default)) ∧ ∃ q, w' = w.drewN q := AnyE.slices_IndexFunc Tryz.laysSlH6_f230 enc p g lb eg b off n c zs w hp hz hbig hc
open Go.RowKit Go.Lib in
/-- The same at a slice of length 0, a nil one too: the predicate is not called: nothing is asked of it. (LAID AT THE INSTANCE 'slices.IndexFunc[[]uint32,uint32]': no walk: one application.) -/
theorem Tryz.slices_IndexFunc_empty_f230 {α : Type} [Inhabited α] (a : Option Addr) (c : Nat) (fv : Value) (w : World) :
    Calls Tryz.prog 230 #[.slice a 0 c, fv] w fun e w' => e = .returned (.int .i64 (-1)) ∧ w' = w := AnyE.slices_IndexFunc_empty Tryz.laysSlH6_f230 a c fv w
def Tryz.laysSlH10_f172_ren : Go.Shelf.Ren := ⟨fun | 10 => 172 | 6 => 230 | n => n, fun | 22 => 84 | 23 => 25 | 25 => 259 | 3 => 3 | 4 => 4 | 0 => 0 | n => n, fun | n => n⟩
theorem Tryz.laysSlH10_f172 : Go.Proofs.SlLaysH.n10 Tryz.prog Tryz.laysSlH10_f172_ren := {
  mixed := by kernel_rfl
  f6 := ⟨Tryz.f230.name, by decide, Tryz.func230.trans (congrArg some (by kernel_rfl))⟩
  f10 := ⟨Tryz.f172.name, by decide, Tryz.func172.trans (congrArg some (by kernel_rfl))⟩
  t0 := Tryz.underlying0
  a0 := Tryz.isAgg0
  z0 := Tryz.sizeOf0
  v0 := Tryz.zeroValue0
  t3 := Tryz.underlying3
  a3 := Tryz.isAgg3
  z3 := Tryz.sizeOf3
  v3 := Tryz.zeroValue3
  t4 := Tryz.underlying4
  a4 := Tryz.isAgg4
  z4 := Tryz.sizeOf4
  v4 := Tryz.zeroValue4
  t22 := Tryz.underlying84
  a22 := Tryz.isAgg84
  z22 := Tryz.sizeOf84
  v22 := Tryz.zeroValue84
  a23 := Tryz.isAgg25
  z23 := Tryz.sizeOf25
  t25 := Tryz.underlying259
  a25 := Tryz.isAgg259
  z25 := Tryz.sizeOf259
  v25 := Tryz.zeroValue259 }
open Go.RowKit Go.Lib Go.Sort in
theorem Tryz.slices_DeleteFunc_f172 {α : Type} [Inhabited α] (enc : α → Value) (hO : OneCell enc) (p : α → Bool) (g : Nat) (lb : Array Value) (eg : ∀ args w, (callFunc g args).run Tryz.prog w = .ok (.enter g args) w) (zr : α) (v23 : ∀ w, (zeroValue 25).run Tryz.prog w = .ok (enc zr) w) (blk off cap : Nat) (d : Array α) (w : World) (hp : PredAt Tryz.prog g lb enc p w) (hpo : PredOver Tryz.prog g lb enc p blk off d.size w) (hH : Holds enc w blk off d) (hsz : d.size ≤ 9223372036854775807) (hcap : d.size ≤ cap) :
    Calls Tryz.prog 172 #[.slice (some ⟨blk, off, none⟩) d.size cap, .func (.func g) #[] lb] w fun e w' => e = .returned (.slice (some ⟨blk, off, none⟩) (d.toList.filter fun x => !p x).length cap) ∧ ∃ q, w' = putRow enc (Sort.ahead w q) blk off ((d.toList.filter fun x => !p x) ++ List.replicate (d.size - (d.toList.filter fun x => !p x).length) zr).toArray := AnyE.slices_DeleteFunc Tryz.laysSlH10_f172 enc hO p g lb eg zr v23 blk off cap d w hp hpo hH hsz hcap

end Go.Proofs

/- slices.Clone of rows, slices.DeleteFunc of a row of numbers, in the words of this proof. -/
namespace Go.Proofs.YtclpmkinjjhncaaGreat
open Go.RowKit Go.Shelf Go.Lib Go.Sort

abbrev u32v (i : Nat) : Value := .int .u32 (i : Int)
theorem u32_one : OneCell u32v := fun _ => rfl
theorem Tryz.z26 (w : World) : (zeroValue 25).run Tryz.prog w = .ok (u32v 0) w := by kernel_rfl

theorem nat_beq (x p : Nat) : ((x : Int) == (p : Int)) = (x == p) := by
  rw [Bool.eq_iff_iff, beq_iff_eq, beq_iff_eq]; omega

theorem pins1_any (x p B : Nat) (W : World) (hc : W.cell? ⟨B, 0, none⟩ = some (u32v p)) :
    Calls Tryz.prog 173 #[u32v x, ptr B] W fun e w' => e = .returned (.bool (x == p)) ∧ w' = W := by
  have HB := Lib.hid (nat_beq x p)
  go_enter Tryz.func173, Tryz.ntmps173
  go_wp2_with fail
  go_ret
  exact ⟨by rw [← HB.out]; rfl, rfl⟩
theorem drops1_any (x p B : Nat) (W : World) (hc : W.cell? ⟨B, 0, none⟩ = some (u32v p)) :
    Calls Tryz.prog 193 #[u32v x, ptr B] W fun e w' => e = .returned (.bool (x == p)) ∧ w' = W := by
  have HB := Lib.hid (nat_beq x p)
  go_enter Tryz.func193, Tryz.ntmps193
  go_wp2_with fail
  go_ret
  exact ⟨by rw [← HB.out]; rfl, rfl⟩

/-- A function value that asks 'is it p?', p in the variable of block B. -/
def AsksFor (f : Nat) (p B : Nat) : Prop := (∀ x W, W.cell? ⟨B, 0, none⟩ = some (u32v p) → Calls Tryz.prog f #[u32v x, ptr B] W fun e w' => e = .returned (.bool (x == p)) ∧ w' = W) ∧
  ∀ args w, (callFunc f args).run Tryz.prog w = .ok (.enter f args) w
theorem asks_pins (p B : Nat) : AsksFor 173 p B := ⟨fun x W h => pins1_any x p B W h, enters_of Tryz.func173 (by kernel_rfl) rfl⟩
theorem asks_drops (p B : Nat) : AsksFor 193 p B := ⟨fun x W h => drops1_any x p B W h, enters_of Tryz.func193 (by kernel_rfl) rfl⟩

set_option maxRecDepth 100000 in
set_option maxHeartbeats 1000000 in
theorem delete_empty (a : Option Addr) (c : Nat) (fv : Value) (w : World) :
    Calls Tryz.prog 172 #[.slice a 0 c, fv] w fun e w' => e = .returned (.slice a 0 c) ∧ w' = w := by
  have HI := Lib.hid (Tryz.slices_IndexFunc_empty_f230 (α := Nat) a c fv w)
  go_enter Tryz.func172, Tryz.ntmps172
  go_wp2_with fail
  refine HI.out.mono ?_
  rintro e w1 ⟨rfl, hw⟩
  subst w1
  go_wp2_with fail
  go_ret
  exact ⟨rfl, rfl⟩

theorem putRow_heap (w : World) (q b : Nat) (D : Array Nat) (cur : Array Value) (e : TypeId) (h : w.heap[b]? = some (.cells cur e (0, 0))) :
    (putRow u32v (Sort.ahead w q) b 0 D).heap[b]? = some (.cells (Go.Sort.putCells u32v 0 D cur) e (0, 0)) := by
  simp [putRow, mapBlock, Sort.ahead, Array.getElem?_modify, h, onCells]
theorem putRow_grown (w : World) (q b : Nat) (D : Array Nat) : w.grownBy (putRow u32v (Sort.ahead w q) b 0 D) (some b) :=
  ⟨rfl, rfl, rfl, by simp [putRow, mapBlock, Sort.ahead], fun k _ hk => by
    have : ¬ b = k := fun e => hk (by rw [e])
    simp [putRow, mapBlock, Sort.ahead, Array.getElem?_modify, this]⟩

/-- A row of numbers from which one is struck. -/
theorem delete_row {w : World} {base f p B : Nat} {v : Value} {ids : List Nat} (hf : AsksFor f p B) (h : w.ownsRow base 25 1 v ids.length (ids.map u32v)) (hB : Blk w B 25 #[u32v p]) (hne : v.ownBlock ≠ some B) :
    Calls Tryz.prog 172 #[v, .func (.func f) #[] #[ptr B]] w fun e w' => ∃ v', e = .returned v' ∧
      w'.ownsRow base 25 1 v' (ids.filter (fun x => !(x == p))).length ((ids.filter (fun x => !(x == p))).map u32v) ∧ w.grownBy w' v.ownBlock ∧ (∀ k, v'.ownBlock = some k → v.ownBlock = some k) := by
  rcases h.2 with ⟨rfl, h0⟩ | ⟨b, cap, cur, rfl, hbb, hh, h1, h2, h3, h4⟩
  · have hids : ids = [] := List.eq_nil_of_length_eq_zero h0
    subst hids
    refine (delete_empty none 0 _ w).mono ?_
    rintro e w1 ⟨rfl, rfl⟩
    exact ⟨_, rfl, World.ownsRow_nil _ _ _ _, ⟨rfl, rfl, rfl, Nat.le_refl _, fun _ _ _ => rfl⟩, fun k hk => hk⟩
  · have hnb : b ≠ B := fun e => hne (by rw [e]; rfl)
    have hlen : ids.toArray.size = ids.length := by simp
    have hcm : cap ≤ 9223372036854775807 := by unfold maxLen at h2; omega
    have hH : Holds u32v w b 0 ids.toArray := by
      intro j hj
      have hj' : j < ids.length := by simpa using hj
      rw [Nat.zero_add]
      refine ⟨(h.cellAt j (by omega)).trans ?_, h.frozenAt j⟩
      simp [hj']
    have hp : PredAt Tryz.prog f #[ptr B] u32v (fun x => x == p) w := fun W x hb => by
      refine (hf.1 x W ((hb.cell (p := ⟨B, 0, none⟩) hB.lt).trans (hB.cell 0))).mono ?_
      rintro e w' ⟨rfl, rfl⟩
      exact ⟨rfl, 0, rfl⟩
    have hpo : PredOver Tryz.prog f #[ptr B] u32v (fun x => x == p) b 0 ids.toArray.size w := fun n os dk x hdk => by
      refine (hf.1 x _ ?_).mono ?_
      · have e1 := putRow_grown w n b dk
        have e2 : (sortWorld u32v w b 0 n dk os).heap[B]? = w.heap[B]? := by
          have hsz : B < (putRow u32v (Sort.ahead w n) b 0 dk).heap.size := Nat.lt_of_lt_of_le hB.lt e1.size
          exact (Sort.heap_grow_old (putRow u32v (Sort.ahead w n) b 0 dk) os hsz).trans (e1.block B hB.lt (fun e => hnb (by injection e with e; exact e.symm)))
        exact (hB.keep e2).cell 0
      · rintro e w' ⟨rfl, rfl⟩
        exact ⟨rfl, 0, rfl⟩
    have hcall := Tryz.slices_DeleteFunc_f172 u32v u32_one (fun x => x == p) f #[ptr B] hf.2 0 Tryz.z26 b 0 cap ids.toArray w hp hpo hH (by rw [hlen]; omega) (by rw [hlen]; exact h1)
    rw [hlen] at hcall
    refine hcall.mono ?_
    rintro e w' ⟨rfl, q, rfl⟩
    have hlf : (ids.filter (fun x => !(x == p))).length ≤ ids.length := List.length_filter_le _ _
    have hcsz : cur.size = cap := by rw [h3, Nat.mul_one]
    refine ⟨_, rfl, ⟨by simp, .inr ⟨b, cap, _, rfl, hbb, putRow_heap w q b _ cur _ hh, Nat.le_trans hlf h1, h2, ?_, ?_⟩⟩, putRow_grown w q b _, fun k hk => hk⟩
    · simp [Go.Sort.putCells, h3]
    · apply List.ext_getElem?
      intro k
      rw [Nat.mul_one, List.getElem?_take]
      split
      · rename_i hk
        have hkc : k < cur.size := by omega
        simp only [Go.Sort.putCells, Array.getElem?_toList, Array.getElem?_mapIdx]
        rw [Array.getElem?_eq_getElem hkc]
        have hk2 : k < ((ids.filter (fun x => !(x == p))) ++ List.replicate (ids.length - (ids.filter (fun x => !(x == p))).length) 0).length := by
          rw [List.length_append, List.length_replicate]; omega
        simp only [Option.map_some, Nat.zero_le, Nat.zero_add, true_and, Nat.sub_zero, List.size_toArray]
        rw [if_pos hk2, List.getElem?_map, List.getElem?_eq_getElem hk]
        simp only [Option.map_some]
        congr 2
        rw [getElem!_pos _ k (by simpa using hk2)]
        simp [List.getElem_append_left hk]
      · rename_i hk
        rw [List.getElem?_eq_none (by simpa using hk)]

/-- A page's rows, copied. -/
theorem clone_rows {G : Foot} {w : World} {A : Option Addr} {c : Nat} {rows : List Sp.Bs} (hR : RowsAt G w A rows) (hA : OkAddr A) (hl : rows.length ≤ 1000000) :
    Calls Tryz.prog 171 #[.slice A rows.length c] w fun e w' => ∃ A' c', e = .returned (.slice A' rows.length c') ∧ OkAddr A' ∧ RowsAt (fun b => w.heap.size ≤ b) w' A' rows ∧ Below w.heap.size w w' := by
  obtain ⟨i0, hi, hz0, hz1, hz2⟩ := info_parts str_info
  rcases hA with rfl | ⟨b, o, rfl⟩
  · have h0 : rows = [] := by
      cases rows with
      | nil => rfl
      | cons x l =>
        obtain ⟨b, o, e, _⟩ := hR.2 (by simp)
        cases e
    subst h0
    refine (Tryz.slices_Clone_nil_f171 0 c w).mono ?_
    rintro e w1 ⟨rfl, rfl⟩
    exact ⟨none, 0, rfl, .inl rfl, Reads.none_, Below.refl _ _⟩
  · have hz23 : ∀ w, (Go.sizeOf 9).run Tryz.prog w = .ok 1 w := fun w => by kernel_rfl
    rcases Nat.eq_zero_or_pos rows.length with h0 | hpos
    · have h0' : rows = [] := List.eq_nil_of_length_eq_zero h0
      subst h0'
      refine (Tryz.slices_Clone_f171 i0 _ 1 16 hi hz0 hz1 hz2 rfl (by decide) hz23 b o 0 c [] w rfl (by unfold maxLen; omega) (by omega) (fun j u hu => by simp at hu) (fun u hu => by simp at hu)).mono ?_
      rintro e w1 ⟨v, rfl, hO, hnn, hb⟩
      obtain ⟨A', c', rfl, hA', hR'⟩ := own_rows (rows := []) hO
      exact ⟨A', c', rfl, hA', hR', hb⟩
    · obtain ⟨b2, o2, e2, _, _, hc⟩ := hR.2 hpos
      injection e2 with e2
      injection e2 with e3 e4
      subst e3 e4
      refine (Tryz.slices_Clone_f171 i0 _ 1 16 hi hz0 hz1 hz2 rfl (by decide) hz23 b o rows.length c (rcs rows) w (by simp) (by unfold maxLen; omega) (by omega) hc (fun u hu => by
        obtain ⟨x, _, rfl⟩ := List.mem_map.1 hu; rfl)).mono ?_
      rintro e w1 ⟨v, rfl, hO, hnn, hb⟩
      obtain ⟨A', c', rfl, hA', hR'⟩ := own_rows hO
      exact ⟨A', c', rfl, hA', hR', hb⟩
end Go.Proofs.YtclpmkinjjhncaaGreat

/- The walks of package pool: New. -/
namespace Go.Proofs.YtclpmkinjjhncaaGreat
open Go.RowKit Go.Conc

theorem setChan_other (w : World) (c b cap : Nat) (buf : Array Value) (cl : Bool) (s r : Nat) (tm : Bool) (h : b ≠ c) : (w.setChan c cap buf cl s r tm).heap[b]? = w.heap[b]? := by
  simp [World.setChan, Array.getElem?_setIfInBounds_ne (Ne.symm h)]
theorem Blk.notChan {w : World} {b c : Nat} {t : TypeId} {cs : Array Value} {cap s r : Nat} {buf : Array Value} {cl tm : Bool} (h : Blk w b t cs) (hc : w.heap[c]? = some (.chan cap buf cl s r tm)) : b ≠ c := by
  rintro rfl
  unfold Blk at h
  rw [h] at hc
  cases hc
theorem UMap.notChan {P : Program} {k e : TypeId} {w : World} {b c m : Nat} {lk : Nat → Option Nat} {cap s r : Nat} {buf : Array Value} {cl tm : Bool} (h : UMap P k e w b m lk) (hc : w.heap[c]? = some (.chan cap buf cl s r tm)) : b ≠ c := by
  rintro rfl
  obtain ⟨D, ⟨es, clock, h1, _⟩, _⟩ := h
  rw [h1] at hc
  cases hc
theorem grown_setChan (w : World) (c cap : Nat) (buf : Array Value) (cl : Bool) (s r : Nat) (tm : Bool) : w.grownBy (w.setChan c cap buf cl s r tm) (some c) :=
  ⟨rfl, rfl, rfl, by simp [World.setChan], fun b _ hb => setChan_other w c b cap buf cl s r tm (fun e => hb (by rw [e]))⟩
theorem chan_buf (k : Nat) : ((List.range k).map fun (i : Nat) => Value.int .i64 (i : Int)).toArray.push (.int .i64 (k : Int)) = ((List.range (k + 1)).map fun (i : Nat) => Value.int .i64 (i : Int)).toArray := by
  rw [List.range_succ]; simp

theorem run_mkchan (n : Nat) (hn : n ≤ 64) (w : World) : (Instr.makeChan 118 (.int .i64 (n : Int))).run Tryz.prog w = .ok (.chan (some w.heap.size)) (w.alloc (.chan n #[] false 0 0 false)) := by
  obtain ⟨i, hi, _, _, hb⟩ := info_parts int_info2
  have := run_makeChan (P := Tryz.prog) (w := w) Tryz.underlying118 hi .i64 n (by omega) (by rw [hb]; omega)
  simpa using this

/-- The frames of a new pool. -/
def frZero (n : Nat) : Array Value := madeCells zeroFrA.cells (n * 9)
/-- What holds while the free frames are sent. -/
def NewAt (w wr : World) (gd gl at_ base n fb gp cb mb k : Nat) : Prop :=
  Below w.heap.size w wr ∧ Blk wr fb 123 (frZero n) ∧ Blk wr gp 121 (plCells gd gl at_ base fb n cb mb (.slice none 0 0)) ∧ UMap Tryz.prog 25 3 wr mb 0 (fun _ => none) ∧
    wr.heap[cb]? = some (.chan n ((List.range k).map fun (i : Nat) => Value.int .i64 (i : Int)).toArray false k 0 false)
def NewPost (w : World) (gd gl at_ base n : Nat) (e : Ending) (w' : World) : Prop :=
  ∃ gp F, e = .returned (.tuple #[ptr gp, .int .i64 0]) ∧ IsPl F w' gp gd gl at_ base ⟨n, [], List.range n⟩ ∧ Below w.heap.size w w' ∧ (∀ b, F b → w.heap.size ≤ b)

theorem newAt_is {w wr : World} {gd gl at_ base n fb gp cb mb : Nat} (h1 : 1 ≤ n) (h64 : n ≤ 64) (h : NewAt w wr gd gl at_ base n fb gp cb mb n) (l1 : w.heap.size ≤ fb) (l2 : w.heap.size ≤ cb) (l3 : w.heap.size ≤ mb) (l4 : w.heap.size ≤ gp) :
    NewPost w gd gl at_ base n (.returned (.tuple #[ptr gp, .int .i64 0])) wr := by
  obtain ⟨hb, hF, hP, hM, hC⟩ := h
  refine ⟨gp, fun b => b = gp ∨ b = fb ∨ b = cb ∨ b = mb, rfl, ⟨noFoot, fb, cb, mb, .slice none 0 0, n, 0, frZero n, ?_⟩, hb, ?_⟩
  · refine ⟨⟨h1, h64, by simp, by simp, by simp, by simp⟩, hP, ⟨hF, by simp [frZero, madeCells], by simp, fun i hi j hj => ?_⟩, hC, hM, World.ownsRow_nil _ _ _ _, ⟨.inl rfl, .inr (.inl rfl), .inr (.inr (.inl rfl)), .inr (.inr (.inr rfl)), fun b h => by simp [Value.ownBlock] at h⟩, fun b h => h.elim, ?_⟩
    · exact made_at n j i (List.mem_range.1 hi) hj
    · rintro b (rfl | rfl | rfl | rfl)
      · exact hP.lt
      · exact hF.lt
      · exact (Array.getElem?_eq_some_iff.1 hC).1
      · exact hM.lt
  · rintro b (rfl | rfl | rfl | rfl) <;> assumption

set_option maxRecDepth 100000 in
set_option maxHeartbeats 4000000 in
theorem pool_new (gd gl at_ base n : Nat) (h1 : 1 ≤ n) (h64 : n ≤ 64) (w : World) :
    Calls Tryz.prog 113 #[ptr gd, ptr gl, .int .i64 at_, .int .i64 base, .int .i64 n] w (NewPost w gd gl at_ base n) := by
  have d1 : decide ((n : Int) < 1) = false := by rw [decide_eq_false_iff_not]; omega
  have d2 : decide ((64 : Int) < n) = false := by rw [decide_eq_false_iff_not]; omega
  refine calls_of_wpN Tryz.func113 rfl ?_
  simp only [Tryz.ntmps113, List.size_toArray, List.length_cons, List.length_nil, Nat.reduceAdd, Nat.reduceSub, Array.replicate_succ, Array.replicate_zero, List.push_toArray, List.append_toArray, List.nil_append, List.cons_append]
  refine wpN_seq_k ?_
  intro K hK
  go_wp2_with fail
  refine wpN_seq_k ?_
  intro K hK
  go_wp2_with fail
  refine wpN_seq_k ?_
  intro K hK
  have HK : ∀ (fb cb mb : Nat) (W : World), (Blk W fb 123 (frZero n) ∧ W.heap[cb]? = some (.chan n #[] false 0 0 false) ∧ UMap Tryz.prog 25 3 W mb 0 (fun _ => none) ∧ Below w.heap.size w W ∧ w.heap.size ≤ fb ∧ w.heap.size ≤ cb ∧ w.heap.size ≤ mb) →
      K { tmps := #[ptr gd, ptr gl, .int .i64 at_, .int .i64 base, .int .i64 n, undef, undef, undef, undef, undef, .pointer none, .int .i64 0, ptr W.heap.size, undef, .bool false, ptr gd, .bool false, ptr gl, .bool false, .bool false, .int .i64 n, .bool false, .int .i64 n, .bool false, ptr gd, ptr gl, .int .i64 at_, .int .i64 base, .int .i64 n, .slice (some ⟨fb, 0, none⟩) n n, .int .i64 n, .chan (some cb), .map (some mb), .agg (plCells gd gl at_ base fb n cb mb (.slice none 0 0)), ptr W.heap.size, undef, undef, undef, undef, undef, undef, undef, undef, undef, undef, undef], defers := [] } (W.alloc (.cells (plCells gd gl at_ base fb n cb mb (.slice none 0 0)) 121)) := by
    rintro fb cb mb W ⟨hF, hC, hM, hb, l1, l2, l3⟩
    refine hK _ _ ?_
    have hbw := hb.alloc hb.size (.cells (plCells gd gl at_ base fb n cb mb (.slice none 0 0)) 121)
    have hP := Lib.hid (Blk.new W 121 (plCells gd gl at_ base fb n cb mb (.slice none 0 0)))
    have hF' := Lib.hid (hF.alloc (.cells (plCells gd gl at_ base fb n cb mb (.slice none 0 0)) 121))
    have hM' := Lib.hid (hM.alloc (.cells (plCells gd gl at_ base fb n cb mb (.slice none 0 0)) 121))
    have hcl : cb < W.heap.size := (Array.getElem?_eq_some_iff.1 hC).1
    have hC' := Lib.hid ((Below.heap_alloc W (.cells (plCells gd gl at_ base fb n cb mb (.slice none 0 0)) 121) cb hcl).trans hC)
    have hgs : w.heap.size ≤ W.heap.size := hb.size
    obtain ⟨gp, hgp⟩ : ∃ gp, gp = W.heap.size := ⟨_, rfl⟩
    obtain ⟨W1, hW1⟩ : ∃ W1, W1 = W.alloc (.cells (plCells gd gl at_ base fb n cb mb (.slice none 0 0)) 121) := ⟨_, rfl⟩
    rw [← hW1] at hbw hP hF' hM' hC' ⊢
    rw [← hgp] at hP hgs hcl ⊢
    clear hW1 hgp hF hC hM hb hK K
    refine wpN_seq ?_
    refine wpN_seq_k ?_
    intro K hK
    go_wp2_with fail
    refine wpN_block ?_
    refine wpN_loop (fun a wr => ∃ (k : Nat) (u13 u37 u38 u39 u40 u41 u42 u43 u44 : Value), k ≤ n ∧ a = { tmps := #[ptr gd, ptr gl, .int .i64 at_, .int .i64 base, .int .i64 n, undef, undef, undef, undef, undef, .pointer none, .int .i64 0, ptr gp, u13, .bool false, ptr gd, .bool false, ptr gl, .bool false, .bool false, .int .i64 n, .bool false, .int .i64 n, .bool false, ptr gd, ptr gl, .int .i64 at_, .int .i64 base, .int .i64 n, .slice (some ⟨fb, 0, none⟩) n n, .int .i64 n, .chan (some cb), .map (some mb), .agg (plCells gd gl at_ base fb n cb mb (.slice none 0 0)), ptr gp, .int .i64 n, .int .i64 (k : Nat), u37, u38, u39, u40, u41, u42, u43, u44, undef], defers := [] } ∧ NewAt w wr gd gl at_ base n fb gp cb mb k) (fun a _ => n - (intOf (a.tmps.getD 36 undef)).toNat) ?_ ?_
    · exact ⟨0, undef, undef, undef, undef, undef, undef, undef, undef, undef, Nat.zero_le _, rfl, hbw, hF'.out, hP.out, hM'.out, hC'.out⟩
    rintro a wr ⟨k, u13, u37, u38, u39, u40, u41, u42, u43, u44, hk, rfl, hbr, hF, hP2, hM, hC⟩
    have HF := Lib.hid hF
    have HP := Lib.hid hP2
    have HM := Lib.hid hM
    have HC := Lib.hid hC
    have c5 := hP2.cell 5
    simp only [plCells, List.getElem?_toArray, List.getElem?_cons_succ, List.getElem?_cons_zero] at c5
    have hcl2 : cb < wr.heap.size := (Array.getElem?_eq_some_iff.1 hC).1
    clear hF hP2 hM hC hF' hP hM' hC' hbw
    by_cases hlt : k < n
    · refine wpN_seq_k ?_
      intro K hK
      go_wp2_with fail
      refine wpN_seq_k ?_
      intro K hK
      go_wp2_with fail
      refine wpN_seq ?_
      refine wpN_block ?_
      refine wpN_seq_k ?_
      intro K hK
      go_wp2_with fail
      refine wpN_region ?_
      change wpT _ _ _ [0, 1, 2, 3, 4, 5] _ _
      refine T_value 0 39 (v := ptr gp) (w' := wr) rfl rfl (by rfl) (by go_simp) ?_
      simp only [List.setIfInBounds_toArray, List.set_cons_zero, List.set_cons_succ]
      refine T_value 1 40 (v := ptr gp) (w' := wr) rfl rfl (by rfl) (by go_simp) ?_
      simp only [List.setIfInBounds_toArray, List.set_cons_zero, List.set_cons_succ]
      refine T_value 2 41 (v := .pointer (some ⟨gp, 5, none⟩)) (w' := wr) rfl rfl (by rfl) (by go_simp) ?_
      simp only [List.setIfInBounds_toArray, List.set_cons_zero, List.set_cons_succ]
      refine T_value 3 42 (v := .chan (some cb)) (w' := wr) rfl rfl (by rfl) (by go_simp) ?_
      simp only [List.setIfInBounds_toArray, List.set_cons_zero, List.set_cons_succ]
      refine T_value 4 43 (v := .int .i64 k) (w' := wr) rfl rfl (by rfl) (by go_simp) ?_
      simp only [List.setIfInBounds_toArray, List.set_cons_zero, List.set_cons_succ]
      refine T_send 5 (c := cb) (cap := n) (buf := ((List.range k).map fun (i : Nat) => Value.int .i64 (i : Int)).toArray) (s := k) (r := 0) (tm := false) (v := .int .i64 k) (z := .tuple #[]) (w' := wr) rfl rfl (by rfl) (by simp [execOp, scase, Act.eval]) HC.out (by simpa using hlt) ?_
      refine T_done ?_
      simp only [Exit.inBlock, Exit.then]
      refine wpN_of_wp ?_
      have hg := grown_setChan wr cb n ((((List.range k).map fun (i : Nat) => Value.int .i64 (i : Int)).toArray).push (.int .i64 (k : Int))) false (k + 1) 0 false
      have hF2 := Lib.hid (HF.out.grown hg (fun e => HF.out.notChan HC.out (by injection e)))
      have hP2 := Lib.hid (HP.out.grown hg (fun e => HP.out.notChan HC.out (by injection e)))
      have hM2 := Lib.hid (HM.out.kept hg (fun e => HM.out.notChan HC.out (by injection e)))
      have hC2 := heap_setChan wr cb n ((((List.range k).map fun (i : Nat) => Value.int .i64 (i : Int)).toArray).push (.int .i64 (k : Int))) false (k + 1) 0 false hcl2
      have hb2 : Below w.heap.size w (wr.setChan cb n ((((List.range k).map fun (i : Nat) => Value.int .i64 (i : Int)).toArray).push (.int .i64 (k : Int))) false (k + 1) 0 false) := hbr.grown hg hbr.size (fun r e => by cases e; exact l2)
      clear hg c5
      generalize wr.setChan cb n ((((List.range k).map fun (i : Nat) => Value.int .i64 (i : Int)).toArray).push (.int .i64 (k : Int))) false (k + 1) 0 false = w5 at *
      rw [chan_buf] at hC2
      have HC2 := Lib.hid hC2
      clear hC2
      go_wp2_with fail
      exact ⟨⟨k + 1, hlt, ⟨_, _, _, _, _, _, _, _, _, rfl⟩, hb2, hF2.out, hP2.out, hM2.out, HC2.out⟩, by simp [intOf]; omega⟩
    · obtain rfl : k = n := by omega
      refine wpN_seq_k ?_
      intro K hK
      go_wp2_with fail
      refine wpN_seq_k ?_
      intro K hK
      go_wp2_with fail
      have hN := Lib.hid (newAt_is h1 h64 ⟨hbr, HF.out, HP.out, HM.out, HC.out⟩ l1 l2 l3 hgs)
      refine wpN_of_wp ?_
      clear hK c5
      go_wp2_with fail
      go_ret2
      exact hN.out
  clear hK
  have HKH := Lib.hid HK
  clear HK
  obtain ⟨i0, hi, hz0, hz1, hz2⟩ := info_parts fr_info
  have hms : ∀ W, (Instr.makeSlice 117 (.int .i64 (n : Int)) (.int .i64 (n : Int))).run Tryz.prog W = .ok (.slice (some ⟨W.heap.size, 0, none⟩) n n) (W.alloc (.cells (frZero n) 123)) := fun W => by
    have := run_make_rowN (P := Tryz.prog) 117 123 i0 zeroFrA Tryz.underlying117 hi hz0 .i64 .i64 n n (Nat.le_refl _) (by rw [hz2]; omega) (by omega) W
    rw [this, hz1]; rfl
  have hmc := run_mkchan n h64
  have hmm := @run_makeMap Tryz.prog
  clear hi hz0 hz1 hz2
  refine R_begin (fun _ => True) (fun _ => false) (by kernel_rfl) ?_
  refine R_take 0 24 (v := ?_) rfl rfl (by rfl) (by kernel_rfl) (fun _ _ _ h => h) trivial ?_ ?_
  rotate_left
  · intro w _; go_simp; (try with_reducible rfl)
  simp only [List.setIfInBounds_toArray, List.set_cons_zero, List.set_cons_succ]
  refine R_take 1 25 (v := ?_) rfl rfl (by rfl) (by kernel_rfl) (fun _ _ _ h => h) trivial ?_ ?_
  rotate_left
  · intro w _; go_simp; (try with_reducible rfl)
  simp only [List.setIfInBounds_toArray, List.set_cons_zero, List.set_cons_succ]
  refine R_take 2 26 (v := ?_) rfl rfl (by rfl) (by kernel_rfl) (fun _ _ _ h => h) trivial ?_ ?_
  rotate_left
  · intro w _; go_simp; (try with_reducible rfl)
  simp only [List.setIfInBounds_toArray, List.set_cons_zero, List.set_cons_succ]
  refine R_take 3 27 (v := ?_) rfl rfl (by rfl) (by kernel_rfl) (fun _ _ _ h => h) trivial ?_ ?_
  rotate_left
  · intro w _; go_simp; (try with_reducible rfl)
  simp only [List.setIfInBounds_toArray, List.set_cons_zero, List.set_cons_succ]
  refine R_take 4 28 (v := ?_) rfl rfl (by rfl) (by kernel_rfl) (fun _ _ _ h => h) trivial ?_ ?_
  rotate_left
  · intro w _; go_simp; (try with_reducible rfl)
  simp only [List.setIfInBounds_toArray, List.set_cons_zero, List.set_cons_succ]
  refine R_take 6 30 (v := ?_) rfl rfl (by rfl) (by kernel_rfl) (fun _ _ _ h => h) trivial ?_ ?_
  rotate_left
  · intro w _; go_simp; (try with_reducible rfl)
  simp only [List.setIfInBounds_toArray, List.set_cons_zero, List.set_cons_succ]
  refine R_all (rs := [5, 7, 8]) (by kernel_rfl) (by simp) (fun i hi => ?_)
  simp only [List.mem_cons, List.not_mem_nil, or_false] at hi
  rcases hi with rfl | rfl | rfl
  · refine op_run 29 (v := .slice (some ⟨w.drew.heap.size, 0, none⟩) n n) (w' := w.drew.alloc (.cells (frZero n) 123)) rfl rfl (by rfl) (by go_simp) ⟨fun _ => trivial, ?_⟩
    simp only [List.setIfInBounds_toArray, List.set_cons_zero, List.set_cons_succ]
    have hb : Below w.heap.size w (w.drew.alloc (.cells (frZero n) 123)) := ((Below.refl _ w).drew).alloc (Nat.le_refl _) _
    have h5 : Blk (w.drew.alloc (.cells (frZero n) 123)) w.drew.heap.size 123 (frZero n) := Blk.new _ _ _
    have l5 : w.heap.size ≤ w.drew.heap.size := Nat.le_refl _
    have hs := hb.size
    obtain ⟨f5, hf5⟩ : ∃ f, f = w.drew.heap.size := ⟨_, rfl⟩
    obtain ⟨W1, hW1⟩ : ∃ W, W = w.drew.alloc (.cells (frZero n) 123) := ⟨_, rfl⟩
    rw [← hW1] at hb hs h5 ⊢
    rw [← hf5] at h5 l5
    clear hW1
    rw [← hf5]
    clear hf5
    refine R_all (rs := [7, 8]) (by kernel_rfl) (by simp) (fun i hi => ?_)
    simp only [List.mem_cons, List.not_mem_nil, or_false] at hi
    rcases hi with rfl | rfl
    · refine op_run 31 (v := .chan (some W1.heap.size)) (w' := W1.alloc (.chan n #[] false 0 0 false)) rfl rfl (by rfl) (by go_simp) ⟨fun _ => trivial, ?_⟩
      simp only [List.setIfInBounds_toArray, List.set_cons_zero, List.set_cons_succ]
      have hb := hb.alloc hb.size (.chan n #[] false 0 0 false)
      have h5 := h5.alloc (.chan n #[] false 0 0 false)
      have h7 : (W1.alloc (.chan n #[] false 0 0 false)).heap[W1.heap.size]? = some (.chan n #[] false 0 0 false) := heap_alloc_new _ _
      have l7 : w.heap.size ≤ W1.heap.size := hs
      have hs := hb.size
      obtain ⟨f7, hf7⟩ : ∃ f, f = W1.heap.size := ⟨_, rfl⟩
      obtain ⟨W2, hW2⟩ : ∃ W, W = W1.alloc (.chan n #[] false 0 0 false) := ⟨_, rfl⟩
      rw [← hW2] at hb hs h5 h7 ⊢
      rw [← hf7] at h7 l7
      clear hW2
      rw [← hf7]
      clear hf7
      refine R_all (rs := [8]) (by kernel_rfl) (by simp) (fun i hi => ?_)
      obtain rfl := List.mem_singleton.1 hi
      · refine op_run 32 (v := .map (some W2.heap.size)) (w' := W2.alloc (.map #[] 0)) rfl rfl (by rfl) (by go_simp) ⟨fun _ => trivial, ?_⟩
        simp only [List.setIfInBounds_toArray, List.set_cons_zero, List.set_cons_succ]
        have hb := hb.alloc hb.size (.map #[] 0)
        have h5 := h5.alloc (.map #[] 0)
        have h7 := (Below.heap_alloc W2 (.map #[] 0) f7 (by have := Array.getElem?_eq_some_iff.1 h7; exact this.1)).trans h7
        have h8 : UMap Tryz.prog 25 3 (W2.alloc (.map #[] 0)) W2.heap.size 0 (fun _ => none) := UMap.made _
        have l8 : w.heap.size ≤ W2.heap.size := hs
        have hs := hb.size
        obtain ⟨f8, hf8⟩ : ∃ f, f = W2.heap.size := ⟨_, rfl⟩
        obtain ⟨W3, hW3⟩ : ∃ W, W = W2.alloc (.map #[] 0) := ⟨_, rfl⟩
        rw [← hW3] at hb hs h5 h7 h8 ⊢
        rw [← hf8] at h8 l8
        clear hW3
        rw [← hf8]
        clear hf8
        refine R_run 9 33 (v := .agg (plCells gd gl at_ base f5 n f7 f8 (.slice none 0 0))) (w' := W3) rfl rfl (by rfl) (by kernel_rfl) (by go_simp) (fun _ => trivial) ?_
        simp only [List.setIfInBounds_toArray, List.set_cons_zero, List.set_cons_succ]
        refine R_run 10 34 (v := ptr W3.heap.size) (w' := W3.alloc (.cells (plCells gd gl at_ base f5 n f7 f8 (.slice none 0 0)) 121)) rfl rfl (by rfl) (by kernel_rfl) (by go_simp) (fun _ => trivial) ?_
        simp only [List.setIfInBounds_toArray, List.set_cons_zero, List.set_cons_succ]
        refine R_run 11 12 (v := ptr W3.heap.size) (w' := W3.alloc (.cells (plCells gd gl at_ base f5 n f7 f8 (.slice none 0 0)) 121)) rfl rfl (by rfl) (by kernel_rfl) (by go_simp) (fun _ => trivial) ?_
        simp only [List.setIfInBounds_toArray, List.set_cons_zero, List.set_cons_succ]
        refine R_done (by kernel_rfl) ?_ _
        exact HKH.out f5 f7 f8 W3 ⟨h5, h7, h8, hb, l5, l7, l8⟩
    · refine op_run 32 (v := .map (some W1.heap.size)) (w' := W1.alloc (.map #[] 0)) rfl rfl (by rfl) (by go_simp) ⟨fun _ => trivial, ?_⟩
      simp only [List.setIfInBounds_toArray, List.set_cons_zero, List.set_cons_succ]
      have hb := hb.alloc hb.size (.map #[] 0)
      have h5 := h5.alloc (.map #[] 0)
      have h8 : UMap Tryz.prog 25 3 (W1.alloc (.map #[] 0)) W1.heap.size 0 (fun _ => none) := UMap.made _
      have l8 : w.heap.size ≤ W1.heap.size := hs
      have hs := hb.size
      obtain ⟨f8, hf8⟩ : ∃ f, f = W1.heap.size := ⟨_, rfl⟩
      obtain ⟨W2, hW2⟩ : ∃ W, W = W1.alloc (.map #[] 0) := ⟨_, rfl⟩
      rw [← hW2] at hb hs h5 h8 ⊢
      rw [← hf8] at h8 l8
      clear hW2
      rw [← hf8]
      clear hf8
      refine R_all (rs := [7]) (by kernel_rfl) (by simp) (fun i hi => ?_)
      obtain rfl := List.mem_singleton.1 hi
      · refine op_run 31 (v := .chan (some W2.heap.size)) (w' := W2.alloc (.chan n #[] false 0 0 false)) rfl rfl (by rfl) (by go_simp) ⟨fun _ => trivial, ?_⟩
        simp only [List.setIfInBounds_toArray, List.set_cons_zero, List.set_cons_succ]
        have hb := hb.alloc hb.size (.chan n #[] false 0 0 false)
        have h5 := h5.alloc (.chan n #[] false 0 0 false)
        have h8 := h8.alloc (.chan n #[] false 0 0 false)
        have h7 : (W2.alloc (.chan n #[] false 0 0 false)).heap[W2.heap.size]? = some (.chan n #[] false 0 0 false) := heap_alloc_new _ _
        have l7 : w.heap.size ≤ W2.heap.size := hs
        have hs := hb.size
        obtain ⟨f7, hf7⟩ : ∃ f, f = W2.heap.size := ⟨_, rfl⟩
        obtain ⟨W3, hW3⟩ : ∃ W, W = W2.alloc (.chan n #[] false 0 0 false) := ⟨_, rfl⟩
        rw [← hW3] at hb hs h5 h8 h7 ⊢
        rw [← hf7] at h7 l7
        clear hW3
        rw [← hf7]
        clear hf7
        refine R_run 9 33 (v := .agg (plCells gd gl at_ base f5 n f7 f8 (.slice none 0 0))) (w' := W3) rfl rfl (by rfl) (by kernel_rfl) (by go_simp) (fun _ => trivial) ?_
        simp only [List.setIfInBounds_toArray, List.set_cons_zero, List.set_cons_succ]
        refine R_run 10 34 (v := ptr W3.heap.size) (w' := W3.alloc (.cells (plCells gd gl at_ base f5 n f7 f8 (.slice none 0 0)) 121)) rfl rfl (by rfl) (by kernel_rfl) (by go_simp) (fun _ => trivial) ?_
        simp only [List.setIfInBounds_toArray, List.set_cons_zero, List.set_cons_succ]
        refine R_run 11 12 (v := ptr W3.heap.size) (w' := W3.alloc (.cells (plCells gd gl at_ base f5 n f7 f8 (.slice none 0 0)) 121)) rfl rfl (by rfl) (by kernel_rfl) (by go_simp) (fun _ => trivial) ?_
        simp only [List.setIfInBounds_toArray, List.set_cons_zero, List.set_cons_succ]
        refine R_done (by kernel_rfl) ?_ _
        exact HKH.out f5 f7 f8 W3 ⟨h5, h7, h8, hb, l5, l7, l8⟩
  · refine op_run 31 (v := .chan (some w.drew.heap.size)) (w' := w.drew.alloc (.chan n #[] false 0 0 false)) rfl rfl (by rfl) (by go_simp) ⟨fun _ => trivial, ?_⟩
    simp only [List.setIfInBounds_toArray, List.set_cons_zero, List.set_cons_succ]
    have hb : Below w.heap.size w (w.drew.alloc (.chan n #[] false 0 0 false)) := ((Below.refl _ w).drew).alloc (Nat.le_refl _) _
    have h7 : (w.drew.alloc (.chan n #[] false 0 0 false)).heap[w.drew.heap.size]? = some (.chan n #[] false 0 0 false) := heap_alloc_new _ _
    have l7 : w.heap.size ≤ w.drew.heap.size := Nat.le_refl _
    have hs := hb.size
    obtain ⟨f7, hf7⟩ : ∃ f, f = w.drew.heap.size := ⟨_, rfl⟩
    obtain ⟨W1, hW1⟩ : ∃ W, W = w.drew.alloc (.chan n #[] false 0 0 false) := ⟨_, rfl⟩
    rw [← hW1] at hb hs h7 ⊢
    rw [← hf7] at h7 l7
    clear hW1
    rw [← hf7]
    clear hf7
    refine R_all (rs := [5, 8]) (by kernel_rfl) (by simp) (fun i hi => ?_)
    simp only [List.mem_cons, List.not_mem_nil, or_false] at hi
    rcases hi with rfl | rfl
    · refine op_run 29 (v := .slice (some ⟨W1.heap.size, 0, none⟩) n n) (w' := W1.alloc (.cells (frZero n) 123)) rfl rfl (by rfl) (by go_simp) ⟨fun _ => trivial, ?_⟩
      simp only [List.setIfInBounds_toArray, List.set_cons_zero, List.set_cons_succ]
      have hb := hb.alloc hb.size (.cells (frZero n) 123)
      have h7 := (Below.heap_alloc W1 (.cells (frZero n) 123) f7 (by have := Array.getElem?_eq_some_iff.1 h7; exact this.1)).trans h7
      have h5 : Blk (W1.alloc (.cells (frZero n) 123)) W1.heap.size 123 (frZero n) := Blk.new _ _ _
      have l5 : w.heap.size ≤ W1.heap.size := hs
      have hs := hb.size
      obtain ⟨f5, hf5⟩ : ∃ f, f = W1.heap.size := ⟨_, rfl⟩
      obtain ⟨W2, hW2⟩ : ∃ W, W = W1.alloc (.cells (frZero n) 123) := ⟨_, rfl⟩
      rw [← hW2] at hb hs h7 h5 ⊢
      rw [← hf5] at h5 l5
      clear hW2
      rw [← hf5]
      clear hf5
      refine R_all (rs := [8]) (by kernel_rfl) (by simp) (fun i hi => ?_)
      obtain rfl := List.mem_singleton.1 hi
      · refine op_run 32 (v := .map (some W2.heap.size)) (w' := W2.alloc (.map #[] 0)) rfl rfl (by rfl) (by go_simp) ⟨fun _ => trivial, ?_⟩
        simp only [List.setIfInBounds_toArray, List.set_cons_zero, List.set_cons_succ]
        have hb := hb.alloc hb.size (.map #[] 0)
        have h7 := (Below.heap_alloc W2 (.map #[] 0) f7 (by have := Array.getElem?_eq_some_iff.1 h7; exact this.1)).trans h7
        have h5 := h5.alloc (.map #[] 0)
        have h8 : UMap Tryz.prog 25 3 (W2.alloc (.map #[] 0)) W2.heap.size 0 (fun _ => none) := UMap.made _
        have l8 : w.heap.size ≤ W2.heap.size := hs
        have hs := hb.size
        obtain ⟨f8, hf8⟩ : ∃ f, f = W2.heap.size := ⟨_, rfl⟩
        obtain ⟨W3, hW3⟩ : ∃ W, W = W2.alloc (.map #[] 0) := ⟨_, rfl⟩
        rw [← hW3] at hb hs h7 h5 h8 ⊢
        rw [← hf8] at h8 l8
        clear hW3
        rw [← hf8]
        clear hf8
        refine R_run 9 33 (v := .agg (plCells gd gl at_ base f5 n f7 f8 (.slice none 0 0))) (w' := W3) rfl rfl (by rfl) (by kernel_rfl) (by go_simp) (fun _ => trivial) ?_
        simp only [List.setIfInBounds_toArray, List.set_cons_zero, List.set_cons_succ]
        refine R_run 10 34 (v := ptr W3.heap.size) (w' := W3.alloc (.cells (plCells gd gl at_ base f5 n f7 f8 (.slice none 0 0)) 121)) rfl rfl (by rfl) (by kernel_rfl) (by go_simp) (fun _ => trivial) ?_
        simp only [List.setIfInBounds_toArray, List.set_cons_zero, List.set_cons_succ]
        refine R_run 11 12 (v := ptr W3.heap.size) (w' := W3.alloc (.cells (plCells gd gl at_ base f5 n f7 f8 (.slice none 0 0)) 121)) rfl rfl (by rfl) (by kernel_rfl) (by go_simp) (fun _ => trivial) ?_
        simp only [List.setIfInBounds_toArray, List.set_cons_zero, List.set_cons_succ]
        refine R_done (by kernel_rfl) ?_ _
        exact HKH.out f5 f7 f8 W3 ⟨h5, h7, h8, hb, l5, l7, l8⟩
    · refine op_run 32 (v := .map (some W1.heap.size)) (w' := W1.alloc (.map #[] 0)) rfl rfl (by rfl) (by go_simp) ⟨fun _ => trivial, ?_⟩
      simp only [List.setIfInBounds_toArray, List.set_cons_zero, List.set_cons_succ]
      have hb := hb.alloc hb.size (.map #[] 0)
      have h7 := (Below.heap_alloc W1 (.map #[] 0) f7 (by have := Array.getElem?_eq_some_iff.1 h7; exact this.1)).trans h7
      have h8 : UMap Tryz.prog 25 3 (W1.alloc (.map #[] 0)) W1.heap.size 0 (fun _ => none) := UMap.made _
      have l8 : w.heap.size ≤ W1.heap.size := hs
      have hs := hb.size
      obtain ⟨f8, hf8⟩ : ∃ f, f = W1.heap.size := ⟨_, rfl⟩
      obtain ⟨W2, hW2⟩ : ∃ W, W = W1.alloc (.map #[] 0) := ⟨_, rfl⟩
      rw [← hW2] at hb hs h7 h8 ⊢
      rw [← hf8] at h8 l8
      clear hW2
      rw [← hf8]
      clear hf8
      refine R_all (rs := [5]) (by kernel_rfl) (by simp) (fun i hi => ?_)
      obtain rfl := List.mem_singleton.1 hi
      · refine op_run 29 (v := .slice (some ⟨W2.heap.size, 0, none⟩) n n) (w' := W2.alloc (.cells (frZero n) 123)) rfl rfl (by rfl) (by go_simp) ⟨fun _ => trivial, ?_⟩
        simp only [List.setIfInBounds_toArray, List.set_cons_zero, List.set_cons_succ]
        have hb := hb.alloc hb.size (.cells (frZero n) 123)
        have h7 := (Below.heap_alloc W2 (.cells (frZero n) 123) f7 (by have := Array.getElem?_eq_some_iff.1 h7; exact this.1)).trans h7
        have h8 := h8.alloc (.cells (frZero n) 123)
        have h5 : Blk (W2.alloc (.cells (frZero n) 123)) W2.heap.size 123 (frZero n) := Blk.new _ _ _
        have l5 : w.heap.size ≤ W2.heap.size := hs
        have hs := hb.size
        obtain ⟨f5, hf5⟩ : ∃ f, f = W2.heap.size := ⟨_, rfl⟩
        obtain ⟨W3, hW3⟩ : ∃ W, W = W2.alloc (.cells (frZero n) 123) := ⟨_, rfl⟩
        rw [← hW3] at hb hs h7 h8 h5 ⊢
        rw [← hf5] at h5 l5
        clear hW3
        rw [← hf5]
        clear hf5
        refine R_run 9 33 (v := .agg (plCells gd gl at_ base f5 n f7 f8 (.slice none 0 0))) (w' := W3) rfl rfl (by rfl) (by kernel_rfl) (by go_simp) (fun _ => trivial) ?_
        simp only [List.setIfInBounds_toArray, List.set_cons_zero, List.set_cons_succ]
        refine R_run 10 34 (v := ptr W3.heap.size) (w' := W3.alloc (.cells (plCells gd gl at_ base f5 n f7 f8 (.slice none 0 0)) 121)) rfl rfl (by rfl) (by kernel_rfl) (by go_simp) (fun _ => trivial) ?_
        simp only [List.setIfInBounds_toArray, List.set_cons_zero, List.set_cons_succ]
        refine R_run 11 12 (v := ptr W3.heap.size) (w' := W3.alloc (.cells (plCells gd gl at_ base f5 n f7 f8 (.slice none 0 0)) 121)) rfl rfl (by rfl) (by kernel_rfl) (by go_simp) (fun _ => trivial) ?_
        simp only [List.setIfInBounds_toArray, List.set_cons_zero, List.set_cons_succ]
        refine R_done (by kernel_rfl) ?_ _
        exact HKH.out f5 f7 f8 W3 ⟨h5, h7, h8, hb, l5, l7, l8⟩
  · refine op_run 32 (v := .map (some w.drew.heap.size)) (w' := w.drew.alloc (.map #[] 0)) rfl rfl (by rfl) (by go_simp) ⟨fun _ => trivial, ?_⟩
    simp only [List.setIfInBounds_toArray, List.set_cons_zero, List.set_cons_succ]
    have hb : Below w.heap.size w (w.drew.alloc (.map #[] 0)) := ((Below.refl _ w).drew).alloc (Nat.le_refl _) _
    have h8 : UMap Tryz.prog 25 3 (w.drew.alloc (.map #[] 0)) w.drew.heap.size 0 (fun _ => none) := UMap.made _
    have l8 : w.heap.size ≤ w.drew.heap.size := Nat.le_refl _
    have hs := hb.size
    obtain ⟨f8, hf8⟩ : ∃ f, f = w.drew.heap.size := ⟨_, rfl⟩
    obtain ⟨W1, hW1⟩ : ∃ W, W = w.drew.alloc (.map #[] 0) := ⟨_, rfl⟩
    rw [← hW1] at hb hs h8 ⊢
    rw [← hf8] at h8 l8
    clear hW1
    rw [← hf8]
    clear hf8
    refine R_all (rs := [5, 7]) (by kernel_rfl) (by simp) (fun i hi => ?_)
    simp only [List.mem_cons, List.not_mem_nil, or_false] at hi
    rcases hi with rfl | rfl
    · refine op_run 29 (v := .slice (some ⟨W1.heap.size, 0, none⟩) n n) (w' := W1.alloc (.cells (frZero n) 123)) rfl rfl (by rfl) (by go_simp) ⟨fun _ => trivial, ?_⟩
      simp only [List.setIfInBounds_toArray, List.set_cons_zero, List.set_cons_succ]
      have hb := hb.alloc hb.size (.cells (frZero n) 123)
      have h8 := h8.alloc (.cells (frZero n) 123)
      have h5 : Blk (W1.alloc (.cells (frZero n) 123)) W1.heap.size 123 (frZero n) := Blk.new _ _ _
      have l5 : w.heap.size ≤ W1.heap.size := hs
      have hs := hb.size
      obtain ⟨f5, hf5⟩ : ∃ f, f = W1.heap.size := ⟨_, rfl⟩
      obtain ⟨W2, hW2⟩ : ∃ W, W = W1.alloc (.cells (frZero n) 123) := ⟨_, rfl⟩
      rw [← hW2] at hb hs h8 h5 ⊢
      rw [← hf5] at h5 l5
      clear hW2
      rw [← hf5]
      clear hf5
      refine R_all (rs := [7]) (by kernel_rfl) (by simp) (fun i hi => ?_)
      obtain rfl := List.mem_singleton.1 hi
      · refine op_run 31 (v := .chan (some W2.heap.size)) (w' := W2.alloc (.chan n #[] false 0 0 false)) rfl rfl (by rfl) (by go_simp) ⟨fun _ => trivial, ?_⟩
        simp only [List.setIfInBounds_toArray, List.set_cons_zero, List.set_cons_succ]
        have hb := hb.alloc hb.size (.chan n #[] false 0 0 false)
        have h8 := h8.alloc (.chan n #[] false 0 0 false)
        have h5 := h5.alloc (.chan n #[] false 0 0 false)
        have h7 : (W2.alloc (.chan n #[] false 0 0 false)).heap[W2.heap.size]? = some (.chan n #[] false 0 0 false) := heap_alloc_new _ _
        have l7 : w.heap.size ≤ W2.heap.size := hs
        have hs := hb.size
        obtain ⟨f7, hf7⟩ : ∃ f, f = W2.heap.size := ⟨_, rfl⟩
        obtain ⟨W3, hW3⟩ : ∃ W, W = W2.alloc (.chan n #[] false 0 0 false) := ⟨_, rfl⟩
        rw [← hW3] at hb hs h8 h5 h7 ⊢
        rw [← hf7] at h7 l7
        clear hW3
        rw [← hf7]
        clear hf7
        refine R_run 9 33 (v := .agg (plCells gd gl at_ base f5 n f7 f8 (.slice none 0 0))) (w' := W3) rfl rfl (by rfl) (by kernel_rfl) (by go_simp) (fun _ => trivial) ?_
        simp only [List.setIfInBounds_toArray, List.set_cons_zero, List.set_cons_succ]
        refine R_run 10 34 (v := ptr W3.heap.size) (w' := W3.alloc (.cells (plCells gd gl at_ base f5 n f7 f8 (.slice none 0 0)) 121)) rfl rfl (by rfl) (by kernel_rfl) (by go_simp) (fun _ => trivial) ?_
        simp only [List.setIfInBounds_toArray, List.set_cons_zero, List.set_cons_succ]
        refine R_run 11 12 (v := ptr W3.heap.size) (w' := W3.alloc (.cells (plCells gd gl at_ base f5 n f7 f8 (.slice none 0 0)) 121)) rfl rfl (by rfl) (by kernel_rfl) (by go_simp) (fun _ => trivial) ?_
        simp only [List.setIfInBounds_toArray, List.set_cons_zero, List.set_cons_succ]
        refine R_done (by kernel_rfl) ?_ _
        exact HKH.out f5 f7 f8 W3 ⟨h5, h7, h8, hb, l5, l7, l8⟩
    · refine op_run 31 (v := .chan (some W1.heap.size)) (w' := W1.alloc (.chan n #[] false 0 0 false)) rfl rfl (by rfl) (by go_simp) ⟨fun _ => trivial, ?_⟩
      simp only [List.setIfInBounds_toArray, List.set_cons_zero, List.set_cons_succ]
      have hb := hb.alloc hb.size (.chan n #[] false 0 0 false)
      have h8 := h8.alloc (.chan n #[] false 0 0 false)
      have h7 : (W1.alloc (.chan n #[] false 0 0 false)).heap[W1.heap.size]? = some (.chan n #[] false 0 0 false) := heap_alloc_new _ _
      have l7 : w.heap.size ≤ W1.heap.size := hs
      have hs := hb.size
      obtain ⟨f7, hf7⟩ : ∃ f, f = W1.heap.size := ⟨_, rfl⟩
      obtain ⟨W2, hW2⟩ : ∃ W, W = W1.alloc (.chan n #[] false 0 0 false) := ⟨_, rfl⟩
      rw [← hW2] at hb hs h8 h7 ⊢
      rw [← hf7] at h7 l7
      clear hW2
      rw [← hf7]
      clear hf7
      refine R_all (rs := [5]) (by kernel_rfl) (by simp) (fun i hi => ?_)
      obtain rfl := List.mem_singleton.1 hi
      · refine op_run 29 (v := .slice (some ⟨W2.heap.size, 0, none⟩) n n) (w' := W2.alloc (.cells (frZero n) 123)) rfl rfl (by rfl) (by go_simp) ⟨fun _ => trivial, ?_⟩
        simp only [List.setIfInBounds_toArray, List.set_cons_zero, List.set_cons_succ]
        have hb := hb.alloc hb.size (.cells (frZero n) 123)
        have h8 := h8.alloc (.cells (frZero n) 123)
        have h7 := (Below.heap_alloc W2 (.cells (frZero n) 123) f7 (by have := Array.getElem?_eq_some_iff.1 h7; exact this.1)).trans h7
        have h5 : Blk (W2.alloc (.cells (frZero n) 123)) W2.heap.size 123 (frZero n) := Blk.new _ _ _
        have l5 : w.heap.size ≤ W2.heap.size := hs
        have hs := hb.size
        obtain ⟨f5, hf5⟩ : ∃ f, f = W2.heap.size := ⟨_, rfl⟩
        obtain ⟨W3, hW3⟩ : ∃ W, W = W2.alloc (.cells (frZero n) 123) := ⟨_, rfl⟩
        rw [← hW3] at hb hs h8 h7 h5 ⊢
        rw [← hf5] at h5 l5
        clear hW3
        rw [← hf5]
        clear hf5
        refine R_run 9 33 (v := .agg (plCells gd gl at_ base f5 n f7 f8 (.slice none 0 0))) (w' := W3) rfl rfl (by rfl) (by kernel_rfl) (by go_simp) (fun _ => trivial) ?_
        simp only [List.setIfInBounds_toArray, List.set_cons_zero, List.set_cons_succ]
        refine R_run 10 34 (v := ptr W3.heap.size) (w' := W3.alloc (.cells (plCells gd gl at_ base f5 n f7 f8 (.slice none 0 0)) 121)) rfl rfl (by rfl) (by kernel_rfl) (by go_simp) (fun _ => trivial) ?_
        simp only [List.setIfInBounds_toArray, List.set_cons_zero, List.set_cons_succ]
        refine R_run 11 12 (v := ptr W3.heap.size) (w' := W3.alloc (.cells (plCells gd gl at_ base f5 n f7 f8 (.slice none 0 0)) 121)) rfl rfl (by rfl) (by kernel_rfl) (by go_simp) (fun _ => trivial) ?_
        simp only [List.setIfInBounds_toArray, List.set_cons_zero, List.set_cons_succ]
        refine R_done (by kernel_rfl) ?_ _
        exact HKH.out f5 f7 f8 W3 ⟨h5, h7, h8, hb, l5, l7, l8⟩
end Go.Proofs.YtclpmkinjjhncaaGreat

/- Plain laws on a pool's items. -/
namespace Go.Proofs.YtclpmkinjjhncaaGreat.Sp

theorem Pl.wf.nodup {p : Pl} (h : p.wf) : (p.free ++ p.items.map (·.idx)).Nodup := h.idx.nodup_iff.2 List.nodup_range
theorem Pl.wf.nodup_idx {p : Pl} (h : p.wf) : (p.items.map (·.idx)).Nodup := (List.nodup_append.1 h.nodup).2.1
theorem Pl.wf.nodup_free {p : Pl} (h : p.wf) : p.free.Nodup := (List.nodup_append.1 h.nodup).1
theorem Pl.wf.free_ne {p : Pl} (h : p.wf) {i : Nat} (hi : i ∈ p.free) {it : It} (hit : it ∈ p.items) : i ≠ it.idx := (List.nodup_append.1 h.nodup).2.2 i hi it.idx (List.mem_map.2 ⟨it, hit, rfl⟩)
theorem Pl.wf.idx_lt {p : Pl} (h : p.wf) {it : It} (hit : it ∈ p.items) : it.idx < p.n :=
  List.mem_range.1 (h.idx.mem_iff.1 (List.mem_append.2 (.inr (List.mem_map.2 ⟨it, hit, rfl⟩))))
theorem Pl.wf.free_lt {p : Pl} (h : p.wf) {i : Nat} (hi : i ∈ p.free) : i < p.n := List.mem_range.1 (h.idx.mem_iff.1 (List.mem_append.2 (.inl hi)))
theorem Pl.wf.len {p : Pl} (h : p.wf) : p.free.length + p.items.length = p.n := by
  have := h.idx.length_eq
  simpa using this

theorem nodup_map_eq {α β : Type} {f : α → β} : ∀ {l : List α}, (l.map f).Nodup → ∀ {a b : α}, a ∈ l → b ∈ l → f a = f b → a = b
  | [], _, _, _, ha, _, _ => absurd ha (by simp)
  | x :: l, h, a, b, ha, hb, e => by
    rw [List.map_cons, List.nodup_cons] at h
    rcases List.mem_cons.1 ha with e1 | h1 <;> rcases List.mem_cons.1 hb with e2 | h2
    · rw [e1, e2]
    · exact absurd (List.mem_map.2 ⟨b, h2, by rw [← e1]; exact e.symm⟩) h.1
    · exact absurd (List.mem_map.2 ⟨a, h1, by rw [← e2]; exact e⟩) h.1
    · exact nodup_map_eq h.2 h1 h2 e

theorem Pl.find_mem {p : Pl} {id : Nat} {it : It} (h : p.find id = some it) : it ∈ p.items ∧ it.page.id = id := by
  unfold Pl.find at h
  exact ⟨List.mem_of_find?_eq_some h, by simpa using List.find?_some h⟩
theorem Pl.find_of {p : Pl} (h : p.wf) {it : It} (hit : it ∈ p.items) : p.find it.page.id = some it := by
  unfold Pl.find
  cases hf : p.items.find? (fun x => x.page.id == it.page.id) with
  | none =>
    have := List.find?_eq_none.1 hf it hit
    simp at this
  | some y =>
    have h1 := List.mem_of_find?_eq_some hf
    have h2 : y.page.id = it.page.id := by simpa using List.find?_some hf
    rw [nodup_map_eq h.ids h1 hit h2]
theorem Pl.find_none {p : Pl} {id : Nat} : p.find id = none ↔ ∀ it ∈ p.items, it.page.id ≠ id := by
  unfold Pl.find
  rw [List.find?_eq_none]
  simp

/-- an item turned. -/
def Pl.upd (p : Pl) (id : Nat) (f : It → It) : Pl := { p with items := p.items.map fun x => if x.page.id = id then f x else x }

structure Tame (f : It → It) : Prop where
  id : ∀ x, (f x).page.id = x.page.id
  idx : ∀ x, (f x).idx = x.idx

theorem Pl.upd_ids {p : Pl} {id : Nat} {f : It → It} (hf : Tame f) : (p.upd id f).items.map (·.page.id) = p.items.map (·.page.id) := by
  unfold Pl.upd
  rw [List.map_map]
  apply List.map_congr_left
  intro x _
  simp only [Function.comp]
  split
  · exact hf.id x
  · rfl
theorem Pl.upd_idx {p : Pl} {id : Nat} {f : It → It} (hf : Tame f) : (p.upd id f).items.map (·.idx) = p.items.map (·.idx) := by
  unfold Pl.upd
  rw [List.map_map]
  apply List.map_congr_left
  intro x _
  simp only [Function.comp]
  split
  · exact hf.idx x
  · rfl
theorem Pl.upd_mem {p : Pl} {id : Nat} {f : It → It} {y : It} (h : y ∈ (p.upd id f).items) : ∃ x ∈ p.items, y = if x.page.id = id then f x else x := by
  obtain ⟨x, hx, rfl⟩ := List.mem_map.1 h
  exact ⟨x, hx, rfl⟩
theorem Pl.upd_wf {p : Pl} (h : p.wf) {id : Nat} {f : It → It} (hf : Tame f) (hpg : ∀ x ∈ p.items, x.page.id = id → (f x).page.wf ∧ (f x).page.may ∧ (f x).pins ≤ 1000000000 ∧ (f x).from_ < 18446744073709551616) : (p.upd id f).wf := by
  refine ⟨h.n1, h.n64, ?_, ?_, fun y hy => ?_, fun y hy => ?_⟩
  · rw [Pl.upd_idx hf]; exact h.idx
  · rw [Pl.upd_ids hf]; exact h.ids
  · obtain ⟨x, hx, rfl⟩ := Pl.upd_mem hy
    split
    · rename_i e; exact ⟨(hpg x hx e).1, (hpg x hx e).2.1⟩
    · exact h.pg x hx
  · obtain ⟨x, hx, rfl⟩ := Pl.upd_mem hy
    split
    · rename_i e; exact (hpg x hx e).2.2
    · exact h.small x hx
theorem Pl.upd_lk {p : Pl} {id : Nat} {f : It → It} (hf : Tame f) : ∀ q, (p.upd id f).lk q = p.lk q := by
  intro q
  unfold Pl.lk Pl.find Pl.upd
  rw [List.find?_map]
  have e : ((fun it : It => it.page.id == q) ∘ fun x => if x.page.id = id then f x else x) = fun it : It => it.page.id == q := by
    funext x
    simp only [Function.comp]
    split
    · rw [hf.id]
    · rfl
  rw [e]
  cases p.items.find? (fun it => it.page.id == q) with
  | none => rfl
  | some y =>
    simp only [Option.map_some]
    split
    · rw [hf.idx]
    · rfl
end Go.Proofs.YtclpmkinjjhncaaGreat.Sp

/- The walks of package pool: made, Free, Pins, Unpin. -/
namespace Go.Proofs.YtclpmkinjjhncaaGreat
open Go.RowKit Go.Conc

theorem Tryz.zi (w : World) : (zeroValue 3).run Tryz.prog w = .ok (.int .i64 0) w := by kernel_rfl

section
variable {F R : Foot} {w : World} {gp gd gl at_ base fb cb mb s r : Nat} {v : Value} {cs : Array Value} {fl ids : List Nat} {p : Sp.Pl}

/-- What the pool's struct holds. -/
theorem IsPlAt.cells (h : IsPlAt F R w gp gd gl at_ base fb cb mb v s r cs fl ids p) : w.cell? ⟨gp, 0, none⟩ = some (ptr gd) ∧ w.cell? ⟨gp, 1, none⟩ = some (ptr gl) ∧ w.cell? ⟨gp, 2, none⟩ = some (.int .i64 at_) ∧ w.cell? ⟨gp, 3, none⟩ = some (.int .i64 base) ∧
    w.cell? ⟨gp, 4, none⟩ = some (.slice (some ⟨fb, 0, none⟩) p.n p.n) ∧ w.cell? ⟨gp, 5, none⟩ = some (.chan (some cb)) ∧ w.cell? ⟨gp, 6, none⟩ = some (.map (some mb)) ∧ w.cell? ⟨gp, 7, none⟩ = some v :=
  ⟨h.blk.cell 0, h.blk.cell 1, h.blk.cell 2, h.blk.cell 3, h.blk.cell 4, h.blk.cell 5, h.blk.cell 6, h.blk.cell 7⟩
theorem IsPlAt.item (h : IsPlAt F R w gp gd gl at_ base fb cb mb v s r cs fl ids p) {it : Sp.It} (hit : it ∈ p.items) {j : Nat} (hj : j < 9) : ∃ A c, w.cell? ⟨fb, it.idx * 9 + j, none⟩ = (frCells it A c)[j]? := by
  obtain ⟨A, c, _, _, hc⟩ := h.fr.item it hit
  exact ⟨A, c, (h.fr.blk.cell _).trans (hc j hj)⟩
theorem IsPlAt.pins (h : IsPlAt F R w gp gd gl at_ base fb cb mb v s r cs fl ids p) {it : Sp.It} (hit : it ∈ p.items) : w.cell? ⟨fb, it.idx * 9 + 6, none⟩ = some (.int .i64 it.pins) := by
  obtain ⟨A, c, e⟩ := h.item hit (j := 6) (by omega)
  exact e
theorem IsPlAt.dirty (h : IsPlAt F R w gp gd gl at_ base fb cb mb v s r cs fl ids p) {it : Sp.It} (hit : it ∈ p.items) : w.cell? ⟨fb, it.idx * 9 + 7, none⟩ = some (.bool it.dirty) := by
  obtain ⟨A, c, e⟩ := h.item hit (j := 7) (by omega)
  exact e
theorem IsPlAt.look (h : IsPlAt F R w gp gd gl at_ base fb cb mb v s r cs fl ids p) {id : Nat} (hid : id < 4294967296) {it : Sp.It} (hf : p.find id = some it) :
    (Instr.lookup 119 (.map (some mb)) (u32v id) false).run Tryz.prog w = .ok (.int .i64 it.idx) w :=
  h.map.look Tryz.underlying25 Tryz.underlying3 Tryz.underlying119 (Tryz.zi w) hid (by simp [Sp.Pl.lk, hf])
theorem IsPlAt.look_in (h : IsPlAt F R w gp gd gl at_ base fb cb mb v s r cs fl ids p) {id : Nat} (hid : id < 4294967296) {it : Sp.It} (hf : p.find id = some it) :
    (Instr.lookup 119 (.map (some mb)) (u32v id) true).run Tryz.prog w = .ok (.tuple #[.int .i64 it.idx, .bool true]) w := by
  have := h.map.look_ok Tryz.underlying25 Tryz.underlying3 Tryz.underlying119 (Tryz.zi w) hid
  simpa [Sp.Pl.lk, hf] using this
theorem IsPlAt.look_out (h : IsPlAt F R w gp gd gl at_ base fb cb mb v s r cs fl ids p) {id : Nat} (hid : id < 4294967296) (hf : p.find id = none) :
    (Instr.lookup 119 (.map (some mb)) (u32v id) true).run Tryz.prog w = .ok (.tuple #[.int .i64 0, .bool false]) w := by
  have := h.map.look_ok Tryz.underlying25 Tryz.underlying3 Tryz.underlying119 (Tryz.zi w) hid
  simpa [Sp.Pl.lk, hf] using this
end

set_option maxRecDepth 100000 in
set_option maxHeartbeats 1000000 in
theorem pool_made {w : World} {gp mb : Nat} (h6 : w.cell? ⟨gp, 6, none⟩ = some (.map (some mb))) :
    Calls Tryz.prog 45 #[ptr gp] w fun e w' => e = .returned (.bool true) ∧ w' = w := by
  have hne := fun w => run_neq_map_nil (P := Tryz.prog) w 119 _ _ (some mb) Tryz.underlying119
  go_enter Tryz.func45, Tryz.ntmps45
  go_wp2_with fail
  go_ret
  exact ⟨rfl, rfl⟩
theorem pool_made_nil (w : World) : Calls Tryz.prog 45 #[.pointer none] w fun e w' => e = .returned (.bool false) ∧ w' = w := by
  go_enter Tryz.func45, Tryz.ntmps45
  go_wp2_with fail
  go_ret
  exact ⟨rfl, rfl⟩

end Go.Proofs.YtclpmkinjjhncaaGreat

/- How a pool in memory turns. No walk. -/
namespace Go.Proofs.YtclpmkinjjhncaaGreat
open Go.RowKit Go.Conc

theorem u32_info : (Tryz.prog.info? 25).map (fun i => (i.zero, i.size, i.bytes)) = some (some (.int .u32 0), 1, 4) := by kernel_rfl

namespace Sp
/-- a page brought into frame i, which was free. -/
def Pl.bring (p : Pl) (x : Pg) (i : Nat) (rest : List Nat) : Pl := ⟨p.n, p.items ++ [⟨x, 0, false, 0, i⟩], rest⟩
/-- a page dropped. -/
def Pl.drop (p : Pl) (id i : Nat) : Pl := ⟨p.n, p.items.filter (fun x => x.page.id != id), p.free ++ [i]⟩

theorem Pl.wf.bring {p : Pl} (h : p.wf) {x : Pg} {i : Nat} {rest : List Nat} (hfree : p.free = i :: rest) (hn : p.find x.id = none) (hx : x.wf ∧ x.may) : (p.bring x i rest).wf := by
  have hn' := Pl.find_none.1 hn
  refine ⟨h.n1, h.n64, ?_, ?_, fun y hy => ?_, fun y hy => ?_⟩
  · have := h.idx
    rw [hfree] at this
    refine List.Perm.trans ?_ this
    simp only [Pl.bring, List.map_append, List.map_cons, List.map_nil]
    rw [← List.append_assoc]
    exact List.perm_append_singleton i (rest ++ p.items.map (·.idx))
  · simp only [Pl.bring, List.map_append, List.map_cons, List.map_nil]
    refine List.nodup_append.2 ⟨h.ids, by simp, fun a ha b hb => ?_⟩
    obtain ⟨y, hy, rfl⟩ := List.mem_map.1 ha
    rw [List.mem_singleton.1 hb]
    exact hn' y hy
  · rcases List.mem_append.1 hy with hy | hy
    · exact h.pg y hy
    · rw [List.mem_singleton.1 hy]; exact hx
  · rcases List.mem_append.1 hy with hy | hy
    · exact h.small y hy
    · rw [List.mem_singleton.1 hy]; exact ⟨by simp, by simp⟩
theorem Pl.lk_bring {p : Pl} (h : p.wf) {x : Pg} {i : Nat} {rest : List Nat} (hfree : p.free = i :: rest) (hn : p.find x.id = none) (hx : x.wf ∧ x.may) : ∀ q, (p.bring x i rest).lk q = lkPut p.lk x.id i q := by
  have hw := h.bring hfree hn hx
  intro q
  unfold lkPut Pl.lk
  split
  · rename_i e
    subst e
    rw [Pl.find_of (p := p.bring x i rest) hw (it := ⟨x, 0, false, 0, i⟩) (by simp [Pl.bring])]
    rfl
  · rename_i e
    have : (p.bring x i rest).find q = p.find q := by
      unfold Pl.find Pl.bring
      rw [List.find?_append]
      cases p.items.find? (fun it => it.page.id == q) with
      | some y => rfl
      | none => simp [Ne.symm e]
    rw [this]

theorem Pl.drop_perm {p : Pl} (h : p.wf) {it : It} (hit : it ∈ p.items) : p.items.Perm (it :: p.items.filter (fun x => x.page.id != it.page.id)) := by
  have hsub : ∀ l : List It, (l.map (·.page.id)).Nodup → it ∈ l → l.Perm (it :: l.filter (fun x => x.page.id != it.page.id)) := by
    intro l
    induction l with
    | nil => intro _ h; cases h
    | cons y l ih =>
      intro hn hm
      rw [List.map_cons, List.nodup_cons] at hn
      rcases List.mem_cons.1 hm with e | hm
      · subst e
        rw [List.filter_cons_of_neg (by simp)]
        refine List.Perm.cons _ ?_
        rw [List.filter_eq_self.2]
        intro a ha
        have : a.page.id ≠ it.page.id := fun e => hn.1 (List.mem_map.2 ⟨a, ha, e⟩)
        simpa using this
      · have hne : y.page.id ≠ it.page.id := fun e => hn.1 (List.mem_map.2 ⟨it, hm, e.symm⟩)
        rw [List.filter_cons_of_pos (by simpa using hne)]
        exact (List.Perm.cons _ (ih hn.2 hm)).trans (List.Perm.swap _ _ _)
  exact hsub p.items h.ids hit
theorem Pl.wf.drop {p : Pl} (h : p.wf) {it : It} (hit : it ∈ p.items) : (p.drop it.page.id it.idx).wf := by
  have hp := Pl.drop_perm h hit
  have hm : ∀ y, y ∈ (p.drop it.page.id it.idx).items → y ∈ p.items := fun y hy => (List.mem_filter.1 hy).1
  refine ⟨h.n1, h.n64, ?_, ?_, fun y hy => h.pg y (hm y hy), fun y hy => h.small y (hm y hy)⟩
  · refine List.Perm.trans ?_ h.idx
    simp only [Pl.drop]
    rw [List.append_assoc]
    refine List.Perm.append_left _ ?_
    exact (hp.map (·.idx)).symm
  · have := (hp.map (·.page.id)).nodup_iff.1 h.ids
    rw [List.map_cons, List.nodup_cons] at this
    exact this.2
theorem Pl.drop_length {p : Pl} (h : p.wf) {it : It} (hit : it ∈ p.items) : (p.drop it.page.id it.idx).items.length = p.items.length - 1 := by
  have := (Pl.drop_perm h hit).length_eq
  rw [List.length_cons] at this
  simp only [Pl.drop]
  omega
theorem Pl.lk_drop {p : Pl} (id i : Nat) : ∀ q, (p.drop id i).lk q = lkDel p.lk id q := by
  intro q
  unfold lkDel Pl.lk
  have hf : (p.drop id i).find q = if q = id then none else p.find q := by
    unfold Pl.find Pl.drop
    simp only
    rw [List.find?_filter]
    split
    · rename_i e
      subst e
      rw [List.find?_eq_none]
      intro x _
      simp
    · rename_i e
      congr 1
      funext x
      by_cases hx : x.page.id = q
      · simp [hx, e]
      · simp [hx]
  rw [hf]
  split <;> rfl
end Sp

section
variable {F R : Foot} {w w' : World} {gp gd gl at_ base fb cb mb s r : Nat} {v : Value} {cs : Array Value} {fl ids : List Nat} {p : Sp.Pl}

theorem ownsRow_heap {w : World} {e : TypeId} {k n : Nat} {v : Value} {xs : List Value} {b : Nat} (h : w.ownsRow b e k v n xs) {g : Nat} (hg : v.ownBlock = some g) : ∃ cur, w.heap[g]? = some (.cells cur e (0, 0)) := by
  rcases h.2 with ⟨rfl, _⟩ | ⟨g', cap, cur, rfl, _, hh, _⟩
  · simp [Value.ownBlock] at hg
  · simp only [Value.ownBlock, Option.some.injEq] at hg
    subst hg
    exact ⟨cur, hh⟩

theorem IsPlAt.own_ne (h : IsPlAt F R w gp gd gl at_ base fb cb mb v s r cs fl ids p) : v.ownBlock ≠ some gp ∧ v.ownBlock ≠ some fb ∧ v.ownBlock ≠ some cb ∧ v.ownBlock ≠ some mb := by
  refine ⟨fun e => ?_, fun e => ?_, fun e => ?_, fun e => ?_⟩ <;> obtain ⟨cur, hc⟩ := ownsRow_heap h.row e
  · have := h.blk; unfold Blk at this; rw [hc] at this; injection this with this; injection this with _ this _; exact absurd this (by decide)
  · have := h.fr.blk; unfold Blk at this; rw [hc] at this; injection this with this; injection this with _ this _; exact absurd this (by decide)
  · rw [h.chan] at hc; cases hc
  · obtain ⟨D, ⟨es, cl, h1, _⟩, _⟩ := h.map; rw [h1] at hc; cases hc
theorem IsPlAt.ne (h : IsPlAt F R w gp gd gl at_ base fb cb mb v s r cs fl ids p) : gp ≠ fb ∧ gp ≠ cb ∧ gp ≠ mb ∧ fb ≠ cb ∧ fb ≠ mb ∧ mb ≠ cb := by
  refine ⟨h.blk.ne_ h.fr.blk (by decide), h.blk.notChan h.chan, ?_, h.fr.blk.notChan h.chan, ?_, h.map.notChan h.chan⟩ <;> rintro rfl <;> obtain ⟨D, ⟨es, cl, h1, _⟩, _⟩ := h.map
  · have := h.blk; unfold Blk at this; rw [h1] at this; cases this
  · have := h.fr.blk; unfold Blk at this; rw [h1] at this; cases this

theorem row_keep {v : Value} {n : Nat} {xs : List Value} (h : w.ownsRow 0 25 1 v n xs) (hk : ∀ b, v.ownBlock = some b → w'.heap[b]? = w.heap[b]?) : w'.ownsRow 0 25 1 v n xs := by
  refine ⟨h.1, ?_⟩
  rcases h.2 with h' | ⟨b, cap, cur, rfl, hb, hh, rest⟩
  · exact .inl h'
  · exact .inr ⟨b, cap, cur, rfl, hb, (hk b rfl).trans hh, rest⟩

/-- cells of one frame turned. -/
structure Framed (cs cs' : Array Value) (i : Nat) : Prop where
  size : cs'.size = cs.size
  rest : ∀ k, (k < i * 9 ∨ i * 9 + 9 ≤ k) → cs'[k]? = cs[k]?

theorem Framed.other {cs cs' : Array Value} {i k j : Nat} (h : Framed cs cs' i) (hk : k ≠ i) (hj : j < 9) : cs'[k * 9 + j]? = cs[k * 9 + j]? :=
  h.rest _ (by omega)
theorem Framed.cell {cs : Array Value} {i j : Nat} (hj : j < 9) (u : Value) : Framed cs (cs.setIfInBounds (i * 9 + j) u) i :=
  ⟨by simp, fun k hk => by rw [Array.getElem?_setIfInBounds_ne (by omega)]⟩
theorem Framed.trans {cs cs' cs'' : Array Value} {i : Nat} (h : Framed cs cs' i) (k : Framed cs' cs'' i) : Framed cs cs'' i :=
  ⟨k.size.trans h.size, fun j hj => (k.rest j hj).trans (h.rest j hj)⟩
theorem Framed.part {cs : Array Value} {i : Nat} {l : List Value} (hl : l.length = 9) (hi : i * 9 + 9 ≤ cs.size) : Framed cs (partRow cs (i * 9) l) i := by
  refine ⟨by simp [partRow]; omega, fun k hk => ?_⟩
  unfold partRow
  rw [List.getElem?_toArray, List.append_assoc]
  rcases hk with hk | hk
  · rw [List.getElem?_append_left (by simp; omega), List.getElem?_take, if_pos hk, Array.getElem?_toList]
  · rw [List.getElem?_append_right (by simp; omega), List.getElem?_append_right (by simp; omega), List.getElem?_drop, Array.getElem?_toList]
    congr 1
    simp
    omega
theorem part_at {cs : Array Value} {i : Nat} {l : List Value} (hl : l.length = 9) (hi : i * 9 + 9 ≤ cs.size) {j : Nat} (hj : j < 9) : (partRow cs (i * 9) l)[i * 9 + j]? = l[j]? := by
  unfold partRow
  rw [List.getElem?_toArray, List.append_assoc, List.getElem?_append_right (by simp; omega), List.getElem?_append_left (by simp; omega)]
  congr 1
  simp
  omega

/-- A page's frame turned. -/
theorem IsPlAt.upd (h : IsPlAt F R w gp gd gl at_ base fb cb mb v s r cs fl ids p) {it : Sp.It} {f : Sp.It → Sp.It} (hf : Sp.Tame f) (hit : it ∈ p.items)
    (hgood : (f it).page.wf ∧ (f it).page.may ∧ (f it).pins ≤ 1000000000 ∧ (f it).from_ < 18446744073709551616) (hs : w.heap.size ≤ w'.heap.size) (hk : ∀ b, F b → b ≠ fb → w'.heap[b]? = w.heap[b]?) {cs' : Array Value}
    (hblk : Blk w' fb 123 cs') (hfr : Framed cs cs' it.idx) (hnew : ∃ A c, OkAddr A ∧ RowsAt R w' A (f it).page.rows ∧ ∀ j, j < 9 → cs'[it.idx * 9 + j]? = (frCells (f it) A c)[j]?) :
    IsPlAt F R w' gp gd gl at_ base fb cb mb v s r cs' fl ids (p.upd it.page.id f) := by
  obtain ⟨f1, f2, f3, f4, f5⟩ := h.foot
  obtain ⟨n1, n2, n3, n4, n5, n6⟩ := h.ne
  obtain ⟨o1, o2, o3, o4⟩ := h.own_ne
  have hone : ∀ x ∈ p.items, x.page.id = it.page.id → x = it := fun x hx e => Sp.nodup_map_eq h.wf.ids hx hit e
  refine ⟨Sp.Pl.upd_wf h.wf hf (fun x hx e => by rw [hone x hx e]; exact hgood), h.blk.keep (hk _ f1 n1), ⟨hblk, hfr.size.trans h.fr.size, fun y hy => ?_, fun i hi j hj => ?_⟩, (hk _ f3 (Ne.symm n4)).trans h.chan, ?_,
    row_keep h.row (fun b hb => hk b (f5 b hb) (fun e => o2 (by rw [hb, e]))), h.foot, h.rows, fun b hb => Nat.lt_of_lt_of_le (h.lt b hb) hs⟩
  · obtain ⟨x, hx, rfl⟩ := Sp.Pl.upd_mem hy
    split
    · rename_i e
      have := hone x hx e
      subst this
      simpa [hf.idx] using hnew
    · rename_i e
      obtain ⟨A, c, hA, hR, hc⟩ := h.fr.item x hx
      refine ⟨A, c, hA, hR.keep hs (fun b hb => hk b (h.rows b hb).1 (h.rows b hb).2.2.1), fun j hj => ?_⟩
      rw [hfr.other (fun e2 => e (congrArg (fun x => x.page.id) (Sp.nodup_map_eq h.wf.nodup_idx hx hit e2))) hj]
      exact hc j hj
  · have hi' : i ∈ p.free := hi
    rw [hfr.other (h.wf.free_ne hi' hit) hj]
    exact h.fr.free i hi' j hj
  · have : (p.upd it.page.id f).items.length = p.items.length := by simp [Sp.Pl.upd]
    rw [this]
    exact (h.map.keep (hk _ f4 (Ne.symm n5))).congr (fun q => Sp.Pl.upd_lk hf q)

/-- The same pages, in another order. -/
theorem IsPlAt.perm (h : IsPlAt F R w gp gd gl at_ base fb cb mb v s r cs fl ids p) {l : List Sp.It} (hl : l.Perm p.items) : IsPlAt F R w gp gd gl at_ base fb cb mb v s r cs fl ids { p with items := l } := by
  have hm : ∀ x, x ∈ l ↔ x ∈ p.items := fun x => hl.mem_iff
  have hids : (l.map (·.page.id)).Nodup := (hl.map _).nodup_iff.2 h.wf.ids
  have hwf : Sp.Pl.wf { p with items := l } := ⟨h.wf.n1, h.wf.n64, (List.Perm.append_left _ (hl.map _)).trans h.wf.idx, hids, fun x hx => h.wf.pg x ((hm x).1 hx), fun x hx => h.wf.small x ((hm x).1 hx)⟩
  refine ⟨hwf, h.blk, ⟨h.fr.blk, h.fr.size, fun x hx => h.fr.item x ((hm x).1 hx), h.fr.free⟩, h.chan, ?_, h.row, h.foot, h.rows, h.lt⟩
  have e : ({ p with items := l } : Sp.Pl).items.length = p.items.length := hl.length_eq
  rw [e]
  refine h.map.congr (fun q => ?_)
  unfold Sp.Pl.lk
  congr 1
  cases hq : p.find q with
  | none =>
    rw [Sp.Pl.find_none] at hq ⊢
    exact fun x hx => hq x ((hm x).1 hx)
  | some y =>
    obtain ⟨hy, rfl⟩ := Sp.Pl.find_mem hq
    exact Sp.Pl.find_of (p := { p with items := l }) hwf ((hm y).2 hy)

/-- The row turned. -/
theorem IsPlAt.rowed (h : IsPlAt F R w gp gd gl at_ base fb cb mb v s r cs fl ids p) {v' : Value} {ids' : List Nat} (hs : w.heap.size ≤ w'.heap.size)
    (hk : ∀ b, F b → b ≠ gp → v.ownBlock ≠ some b → w'.heap[b]? = w.heap[b]?) (hP : Blk w' gp 121 (plCells gd gl at_ base fb p.n cb mb v')) (hr : w'.ownsRow 0 25 1 v' ids'.length (ids'.map fun (i : Nat) => Value.int .u32 (i : Int)))
    (hv : ∀ b, v'.ownBlock = some b → v.ownBlock = some b ∨ w.heap.size ≤ b) : IsPlAt (fun b => F b ∨ v'.ownBlock = some b) R w' gp gd gl at_ base fb cb mb v' s r cs fl ids' p := by
  obtain ⟨f1, f2, f3, f4, f5⟩ := h.foot
  obtain ⟨n1, n2, n3, n4, n5, n6⟩ := h.ne
  obtain ⟨o1, o2, o3, o4⟩ := h.own_ne
  refine ⟨h.wf, hP, h.fr.keep hs (hk _ f2 (Ne.symm n1) o2) (fun b hb => hk b (h.rows b hb).1 (h.rows b hb).2.1 (h.rows b hb).2.2.2.2.2), (hk _ f3 (Ne.symm n2) o3).trans h.chan, h.map.keep (hk _ f4 (Ne.symm n3) o4), hr,
    ⟨.inl f1, .inl f2, .inl f3, .inl f4, fun b hb => .inr hb⟩, fun b hb => ?_, fun b hb => ?_⟩
  · obtain ⟨a1, a2, a3, a4, a5, a6⟩ := h.rows b hb
    refine ⟨.inl a1, a2, a3, a4, a5, fun e => ?_⟩
    rcases hv b e with e1 | e1
    · exact a6 e1
    · have := h.lt b a1; omega
  · rcases hb with hb | hb
    · exact Nat.lt_of_lt_of_le (h.lt b hb) hs
    · obtain ⟨cur, hc⟩ := ownsRow_heap hr hb
      exact (Array.getElem?_eq_some_iff.1 hc).1

/-- The channel turned. -/
theorem IsPlAt.chans (h : IsPlAt F R w gp gd gl at_ base fb cb mb v s r cs fl ids p) {fl' : List Nat} {s' r' : Nat} :
    IsPlAt F R (w.setChan cb p.n (fl'.map fun (i : Nat) => Value.int .i64 (i : Int)).toArray false s' r' false) gp gd gl at_ base fb cb mb v s' r' cs fl' ids p := by
  obtain ⟨f1, f2, f3, f4, f5⟩ := h.foot
  obtain ⟨n1, n2, n3, n4, n5, n6⟩ := h.ne
  obtain ⟨o1, o2, o3, o4⟩ := h.own_ne
  have hc : cb < w.heap.size := h.lt _ f3
  have hk : ∀ b, b ≠ cb → (w.setChan cb p.n (fl'.map fun (i : Nat) => Value.int .i64 (i : Int)).toArray false s' r' false).heap[b]? = w.heap[b]? := fun b hb => setChan_other w cb b _ _ _ _ _ _ hb
  have hsz : (w.setChan cb p.n (fl'.map fun (i : Nat) => Value.int .i64 (i : Int)).toArray false s' r' false).heap.size = w.heap.size := by simp [World.setChan]
  refine ⟨h.wf, h.blk.keep (hk _ n2), h.fr.keep (by omega) (hk _ n4) (fun b hb => hk b (h.rows b hb).2.2.2.1), heap_setChan _ _ _ _ _ _ _ _ hc, h.map.keep (hk _ n6), row_keep h.row (fun b hb => hk b (fun e => o3 (by rw [hb, e]))), h.foot, h.rows, fun b hb => by rw [hsz]; exact h.lt b hb⟩

/-- A page brought in. -/
theorem IsPlAt.bring (h : IsPlAt F R w gp gd gl at_ base fb cb mb v s r cs fl ids p) {x : Sp.Pg} {i : Nat} {rest : List Nat} {A : Option Addr} {c : Nat} {G : Foot} (hfree : p.free = i :: rest) (hn : p.find x.id = none) (hx : x.wf ∧ x.may)
    (hs : w.heap.size ≤ w'.heap.size) (hk : ∀ b, F b → b ≠ fb → b ≠ mb → w'.heap[b]? = w.heap[b]?) {cs' : Array Value}
    (hblk : Blk w' fb 123 cs') (hfr : Framed cs cs' i) (hA : OkAddr A) (hR : RowsAt G w' A x.rows) (hG : ∀ b, G b → ¬ F b ∧ b < w'.heap.size) (hc : ∀ j, j < 9 → cs'[i * 9 + j]? = (frCells ⟨x, 0, false, 0, i⟩ A c)[j]?)
    (hM : UMap Tryz.prog 25 3 w' mb (p.items.length + 1) (lkPut p.lk x.id i)) :
    IsPlAt (fun b => F b ∨ G b) (fun b => R b ∨ G b) w' gp gd gl at_ base fb cb mb v s r cs' fl ids (p.bring x i rest) := by
  obtain ⟨f1, f2, f3, f4, f5⟩ := h.foot
  obtain ⟨n1, n2, n3, n4, n5, n6⟩ := h.ne
  obtain ⟨o1, o2, o3, o4⟩ := h.own_ne
  refine ⟨h.wf.bring hfree hn hx, h.blk.keep (hk _ f1 n1 n3), ⟨hblk, hfr.size.trans h.fr.size, fun y hy => ?_, fun k hk' j hj => ?_⟩, (hk _ f3 (Ne.symm n4) (Ne.symm n6)).trans h.chan, ?_,
    row_keep h.row (fun b hb => hk b (f5 b hb) (fun e => o2 (by rw [hb, e])) (fun e => o4 (by rw [hb, e]))), ⟨.inl f1, .inl f2, .inl f3, .inl f4, fun b hb => .inl (f5 b hb)⟩, fun b hb => ?_, fun b hb => ?_⟩
  · rcases List.mem_append.1 hy with hy | hy
    · obtain ⟨A', c', hA', hR', hc'⟩ := h.fr.item y hy
      refine ⟨A', c', hA', (hR'.keep hs (fun b hb => hk b (h.rows b hb).1 (h.rows b hb).2.2.1 (h.rows b hb).2.2.2.2.1)).mono (fun b hb => .inl hb), fun j hj => ?_⟩
      rw [hfr.other (Ne.symm (h.wf.free_ne (by rw [hfree]; simp) hy)) hj]
      exact hc' j hj
    · rw [List.mem_singleton.1 hy]
      exact ⟨A, c, hA, hR.mono (fun b hb => .inr hb), hc⟩
  · have hk2 : k ∈ rest := hk'
    have hnd := h.wf.nodup_free
    rw [hfree, List.nodup_cons] at hnd
    rw [hfr.other (fun e => hnd.1 (by rw [← e]; exact hk2)) hj]
    exact h.fr.free k (by rw [hfree]; exact List.mem_cons_of_mem _ hk2) j hj
  · have : (p.bring x i rest).items.length = p.items.length + 1 := by simp [Sp.Pl.bring]
    rw [this]
    exact hM.congr (Sp.Pl.lk_bring h.wf hfree hn hx)
  · rcases hb with hb | hb
    · obtain ⟨a1, rest⟩ := h.rows b hb
      exact ⟨.inl a1, rest⟩
    · have hnF := (hG b hb).1
      exact ⟨.inr hb, fun e => hnF (e ▸ f1), fun e => hnF (e ▸ f2), fun e => hnF (e ▸ f3), fun e => hnF (e ▸ f4), fun e => hnF (f5 b e)⟩
  · rcases hb with hb | hb
    · exact Nat.lt_of_lt_of_le (h.lt b hb) hs
    · exact (hG b hb).2

/-- A page dropped. -/
theorem IsPlAt.drop (h : IsPlAt F R w gp gd gl at_ base fb cb mb v s r cs fl ids p) {it : Sp.It} (hit : it ∈ p.items)
    (hs : w.heap.size ≤ w'.heap.size) (hk : ∀ b, F b → b ≠ fb → b ≠ mb → w'.heap[b]? = w.heap[b]?) {cs' : Array Value}
    (hblk : Blk w' fb 123 cs') (hfr : Framed cs cs' it.idx) (hc : ∀ j, j < 9 → cs'[it.idx * 9 + j]? = zeroFr[j]?)
    (hM : UMap Tryz.prog 25 3 w' mb (p.items.length - 1) (lkDel p.lk it.page.id)) :
    IsPlAt F R w' gp gd gl at_ base fb cb mb v s r cs' fl ids (p.drop it.page.id it.idx) := by
  obtain ⟨f1, f2, f3, f4, f5⟩ := h.foot
  obtain ⟨n1, n2, n3, n4, n5, n6⟩ := h.ne
  obtain ⟨o1, o2, o3, o4⟩ := h.own_ne
  refine ⟨h.wf.drop hit, h.blk.keep (hk _ f1 n1 n3), ⟨hblk, hfr.size.trans h.fr.size, fun y hy => ?_, fun k hk' j hj => ?_⟩, (hk _ f3 (Ne.symm n4) (Ne.symm n6)).trans h.chan, ?_,
    row_keep h.row (fun b hb => hk b (f5 b hb) (fun e => o2 (by rw [hb, e])) (fun e => o4 (by rw [hb, e]))), h.foot, h.rows, fun b hb => Nat.lt_of_lt_of_le (h.lt b hb) hs⟩
  · obtain ⟨hy1, hy2⟩ := List.mem_filter.1 hy
    obtain ⟨A', c', hA', hR', hc'⟩ := h.fr.item y hy1
    refine ⟨A', c', hA', hR'.keep hs (fun b hb => hk b (h.rows b hb).1 (h.rows b hb).2.2.1 (h.rows b hb).2.2.2.2.1), fun j hj => ?_⟩
    have hne : y.idx ≠ it.idx := fun e => by
      have := Sp.nodup_map_eq h.wf.nodup_idx hy1 hit e
      subst this
      simp at hy2
    rw [hfr.other hne hj]
    exact hc' j hj
  · rcases List.mem_append.1 hk' with hk2 | hk2
    · rw [hfr.other (h.wf.free_ne hk2 hit) hj]
      exact h.fr.free k hk2 j hj
    · rw [List.mem_singleton.1 hk2]
      exact hc j hj
  · rw [Sp.Pl.drop_length h.wf hit]
    exact hM.congr (Sp.Pl.lk_drop _ _)
end
end Go.Proofs.YtclpmkinjjhncaaGreat
