/- A page that is in is pinned and unpinned again: what that leaves. Plain laws; no program is named here. -/
import Derived.Test.YtclpmkinjjhncaaGreatMQF
import Derived.Test.YtclpmkinjjhncaaGreatMQG
import Derived.Test.YtclpmkinjjhncaaGreatMQD
import Derived.Test.YtclpmkinjjhncaaGreatMQB

namespace Go.Proofs.YtclpmkinjjhncaaGreat.Sp

section
variable {g : Nat → RI} {ks : List Nat}
theorem filter_eq1 {k : Nat} : ∀ {ks : List Nat}, ks.Nodup → k ∈ ks → ks.filter (fun q => q == k) = [k]
  | [], _, h => by cases h
  | a :: t, hn, h => by
    obtain ⟨h1, h2⟩ := List.nodup_cons.1 hn
    by_cases e : a = k
    · subst e
      rw [List.filter_cons_of_pos (by simp)]
      congr 1
      rw [List.filter_eq_nil_iff]
      intro q hq hqa
      exact h1 (by rw [← (beq_iff_eq.1 hqa)]; exact hq)
    · rw [List.filter_cons_of_neg (by simpa using e)]
      exact filter_eq1 h2 ((List.mem_cons.1 h).resolve_left (fun h => e h.symm))
theorem pinR_G (hg : ∀ k, (g k).page.id = k) (hn : ks.Nodup) {k : Nat} (hk : k ∈ ks) : pinR (ks.map g) k = (ks.filter (fun q => q != k) ++ [k]).map (upG g k (fun x => { x with pins := x.pins + 1 })) := by
  unfold pinR dropR
  rw [List.map_append, List.filter_map, List.filter_map]
  have e1 : ((fun x : RI => x.page.id != k) ∘ g) = fun q => q != k := funext fun q => by simp [hg]
  have e2 : ((fun x : RI => x.page.id == k) ∘ g) = fun q => q == k := funext fun q => by simp [hg]
  rw [e1, e2, filter_eq1 hn hk]
  congr 1
  · apply List.map_congr_left
    intro q hq
    have hq := (List.mem_filter.1 hq).2
    unfold upG
    rw [if_neg (by simpa using hq)]
  · simp [upG]
/-- Pin, then Unpin. -/
theorem page_G {s : R15} (hL : s.L = ks.map g) (hg : ∀ k, (g k).page.id = k) (hn : ks.Nodup) {k : Nat} (hk : k ∈ ks) :
    (s.pin k).2.1 = some (g k).page ∧ (s.pin k).2.2.unpin k = (0, { s with L := (ks.filter (fun q => q != k) ++ [k]).map g }) := by
  have hp : s.pin k = (0, some (g k).page, { s with L := (ks.filter (fun q => q != k) ++ [k]).map (upG g k (fun x => { x with pins := x.pins + 1 })) }) := by
    unfold R15.pin
    rw [if_pos (by rw [hL, hasG hg]; simpa using hk), hL, getG hg, if_pos hk, pinR_G hg hn hk]
    rfl
  refine ⟨by rw [hp], ?_⟩
  rw [hp]
  show (({ s with L := (ks.filter (fun q => q != k) ++ [k]).map (upG g k (fun x => { x with pins := x.pins + 1 })) } : R15).unpin k) = _
  rw [unpinG (g := upG g k (fun x => { x with pins := x.pins + 1 })) rfl (upG_id hg (hg k)) (List.mem_append_right _ (List.mem_singleton.2 rfl)) (by unfold upG; rw [if_pos rfl]; show (g k).pins + 1 ≠ 0; omega)]
  congr 2
  apply List.map_congr_left
  intro q _
  unfold upG
  by_cases e : q = k
  · subst e
    simp
  · simp [e]
theorem moved_nodup (hn : ks.Nodup) (k : Nat) : (ks.filter (fun q => q != k) ++ [k]).Nodup := by
  rw [List.nodup_append]
  refine ⟨(List.filter_sublist).nodup hn, by simp, fun a ha b hb e => ?_⟩
  have ha := (List.mem_filter.1 ha).2
  rw [List.mem_singleton.1 hb] at e
  simp [e] at ha
theorem moved_mem {k : Nat} (hk : k ∈ ks) (q : Nat) : q ∈ ks.filter (fun q => q != k) ++ [k] ↔ q ∈ ks := by
  simp only [List.mem_append, List.mem_filter, List.mem_singleton, bne_iff_ne, ne_eq]
  constructor
  · rintro (h | rfl)
    · exact h.1
    · exact hk
  · intro h
    by_cases e : q = k
    · exact .inr e
    · exact .inl ⟨h, e⟩
theorem pins_G {s : R15} (hL : s.L = ks.map g) (hg : ∀ k, (g k).page.id = k) (h0 : ∀ k, (g k).pins = 0) (q : Nat) : s.pinsOf q = 0 := by
  unfold R15.pinsOf
  rw [hL, getG hg]
  split
  · exact h0 q
  · rfl
end
end Go.Proofs.YtclpmkinjjhncaaGreat.Sp

/- What Do of ActFrames' ops leaves, with and without room; Page of what is in. -/
namespace Go.Proofs.YtclpmkinjjhncaaGreat
open Go.RowKit Go.Conc

abbrev Sp.zeroI (k : Nat) : Sp.RI := ⟨Sp.pick [] k, 0, false, 0⟩
abbrev Sp.fillI (k : Nat) : Sp.RI := ⟨Sp.filled k, 0, true, 110⟩
section
variable {K G : Foot} {w : World} {ga gd gl gp f n cd ct cl : Nat} {D T L : Option Addr}
theorem act_fills_full (h1 : 1 ≤ n) (h8 : n ≤ 8) (hf : f < n) (h : PkAt ly17 K w gd gl gp (Sp.newLg 0 64 1) (Sp.st17 f)) (hA : Blk w ga 111 #[ptr gp, ptr gl]) (hKa : K ga) (hL : OpsAt G w L (Sp.fills n)) (hG : ∀ c, G c → K c) :
    Calls Tryz.prog 9 #[ptr ga, recV Sp.nest D T cd ct, .slice L (Sp.fills n).length cl] w fun e w' => e = .returned (.tuple #[.int .u64 0, .int .i64 4]) ∧ Kept K w w' ∧ PkAt ly17 K w' gd gl gp (Sp.newLg 0 64 1) { Sp.st17 f with L := ((Sp.ids n).take f).map Sp.zeroI } := by
  refine (act_fills (D := D) (T := T) (cd := cd) (ct := ct) (cl := cl) h1 h8 h hA hKa hL hG).mono ?_
  rintro e w' ⟨hk, ⟨hq, -⟩ | ⟨-, i, ks, lg', s', v, c, hkn, hkm, rfl, hP, hs⟩⟩
  · exact absurd (Sp.fills_rec h1 h8) hq
  · have hids : ∀ k ∈ Sp.ids n, 1 ≤ k ∧ k ≤ (Sp.st17 f).top := fun k hk => by have := ids_in hk; exact ⟨this.1, by show k ≤ 12; omega⟩
    obtain ⟨rfl, rfl, rfl, hu⟩ := Sp.do_full (ps := Sp.ids n) rfl (Sp.pick_id []) (Sp.fills_nodup n) hids (by show f < (Sp.ids n).length; simpa using hf) hkn hkm hs
    rw [hu] at hP
    exact ⟨rfl, hk, hP⟩
theorem act_fills_ok {t : Sp.Bs} (ht : (Sp.record Sp.nest (Sp.fills n)).1 = t) (h1 : 1 ≤ n) (h8 : n ≤ 8) (hf : n ≤ f) (h : PkAt ly17 K w gd gl gp (Sp.newLg 0 64 1) (Sp.st17 f)) (hA : Blk w ga 111 #[ptr gp, ptr gl]) (hKa : K ga) (hL : OpsAt G w L (Sp.fills n)) (hG : ∀ c, G c → K c) :
    Calls Tryz.prog 9 #[ptr ga, recV Sp.nest D T cd ct, .slice L (Sp.fills n).length cl] w fun e w' => e = .returned (.tuple #[.int .u64 110, .int .i64 0]) ∧ Kept K w w' ∧ PkAt ly17 K w' gd gl gp ((Sp.newLg 0 64 1).append t) { Sp.st17 f with next := 110 + (14 + t.length), L := (Sp.ids n).map Sp.fillI } := by
  subst ht
  refine (act_fills (D := D) (T := T) (cd := cd) (ct := ct) (cl := cl) h1 h8 h hA hKa hL hG).mono ?_
  rintro e w' ⟨hk, ⟨hq, -⟩ | ⟨-, i, ks, lg', s', v, c, hkn, hkm, rfl, hP, hs⟩⟩
  · exact absurd (Sp.fills_rec h1 h8) hq
  · have hids : ∀ k ∈ Sp.ids n, 1 ≤ k ∧ k ≤ (Sp.st17 f).top := fun k hk => by have := ids_in hk; exact ⟨this.1, by show k ≤ 12; omega⟩
    obtain ⟨rfl, rfl, rfl, hu⟩ := Sp.do_ok (ps := Sp.ids n) (Y := Sp.filled) rfl (Sp.pick_id []) (Sp.fills_nodup n) hids (by show (Sp.ids n).length ≤ f; simpa using hf) (fun k hk => ⟨_, rfl⟩) (fun _ => rfl) (fun k hk => by
      have := ids_in hk
      exact (filled_may (q := k) (by omega) (by omega)).1) hkn hkm hs
    rw [hu] at hP
    exact ⟨rfl, hk, hP⟩
theorem act_page_G {l : Sp.Lg} {s : Sp.R15} {g : Nat → Sp.RI} {ks : List Nat} (h : PkAt ly17 K w gd gl gp l s) (hA : Blk w ga 111 #[ptr gp, ptr gl]) (hKa : K ga) (hfo : { l with forced := s.forced } = l) (hL : s.L = ks.map g) (hg : ∀ k, (g k).page.id = k) (hn : ks.Nodup) (h0 : ∀ k, (g k).pins = 0) {k : Nat} (hk : k ∈ ks) (k32 : k < 4294967296) :
    Calls Tryz.prog 10 #[ptr ga, u32v k] w fun e w' => ∃ A c, e = .returned (.tuple #[pgV (g k).page A c, .int .i64 0]) ∧ PkAt ly17 K w' gd gl gp l { s with L := (ks.filter (fun q => q != k) ++ [k]).map g } ∧ Kept K w w' := by
  obtain ⟨p1, p2⟩ := Sp.page_G hL hg hn hk
  refine (act_page_pk h hA hKa k32 (fun x hx => by
    rw [hL] at hx
    obtain ⟨q, _, rfl⟩ := List.mem_map.1 hx
    rw [h0]; omega) p1).mono ?_
  rintro e w' ⟨A, c, rfl, -, -, hP, hk⟩
  rw [p2] at hP ⊢
  refine ⟨A, c, rfl, ?_, hk⟩
  have hP2 := PkAt.mono hP (K' := K) (fun b hb => .inl hb)
  have e : ({ l with forced := ({ s with L := (ks.filter (fun q => q != k) ++ [k]).map g } : Sp.R15).forced } : Sp.Lg) = l := hfo
  rw [e] at hP2
  exact hP2
end
end Go.Proofs.YtclpmkinjjhncaaGreat

/- The ops of law ActFrames, in a row of one's own. -/
namespace Go.Proofs.YtclpmkinjjhncaaGreat
open Go.RowKit

abbrev opZero : Value := .agg #[.int .u8 0, .int .u32 0, .int .i64 0, .int .i64 0, str [], .slice none 0 0, .int .u8 0, .int .u8 0, .int .u32 0]
theorem op_info : (Tryz.prog.info? 28).map (fun i => (i.zero, i.size, i.bytes)) = some (some opZero, 9, 72) := by kernel_rfl
/-- The cells of one of them, whose rows lie in block b. -/
def fopl (q b : Nat) : List Value := [.int .u8 6, .int .u32 ((q : Int) + 1), .int .i64 0, .int .i64 0, str [], .slice (some ⟨b, 0, none⟩) 1 1, .int .u8 0, .int .u8 0, .int .u32 0]
def FilOwn (w0 : Nat) (v : Value) (k : Nat) (wr : World) : Prop :=
  ∃ B : Nat → Nat, wr.ownsRow w0 28 9 v k ((List.range k).flatMap fun q => fopl q (B q)) ∧ ∀ q, q < k → w0 ≤ B q ∧ v.ownBlock ≠ some (B q) ∧ Blk wr (B q) 9 #[str [120]]
theorem FilOwn.zero (w0 : Nat) (wr : World) : FilOwn w0 (.slice none 0 0) 0 wr := ⟨fun _ => 0, World.ownsRow_nil _ _ _ _, fun q h => absurd h (by omega)⟩
theorem FilOwn.row {w0 : Nat} {v : Value} {k : Nat} {wr : World} (h : FilOwn w0 v k wr) : ∃ xs, wr.ownsRow w0 28 9 v k xs := ⟨_, h.choose_spec.1⟩
theorem fop_range_eq {k : Nat} {f g : Nat → List Value} (h : ∀ q, q < k → f q = g q) : (List.range k).flatMap f = (List.range k).flatMap g := by
  induction k with
  | zero => rfl
  | succ k ih => rw [List.range_succ, List.flatMap_append, List.flatMap_append, ih (fun q hq => h q (by omega))]; simp [h k (by omega)]
theorem flat9_get (f : Nat → List Value) (hf : ∀ i, (f i).length = 9) : ∀ m i j, i < m → j < 9 → ((List.range m).flatMap f)[i * 9 + j]? = (f i)[j]? := fun m i j h hj => by
  have key : ∀ m, ((List.range m).flatMap f).length = m * 9 := fun m => by
    induction m with
    | zero => rfl
    | succ m ih => rw [List.range_succ, List.flatMap_append, List.length_append, ih]; simp [hf]; omega
  induction m with
  | zero => omega
  | succ m ih =>
    rw [List.range_succ, List.flatMap_append]
    by_cases e : i < m
    · rw [List.getElem?_append_left (by rw [key]; omega), ih e]
    · have : i = m := by omega
      subst this
      rw [List.getElem?_append_right (by rw [key]; omega), key]
      simp
/-- One op more: the row was appended to, the op's rows lie in a block that is new. -/
theorem FilOwn.more {w0 : Nat} {v v' : Value} {k g : Nat} {w w' : World} {B : Nat → Nat} (hB : ∀ q, q < k → w0 ≤ B q ∧ v.ownBlock ≠ some (B q) ∧ Blk w (B q) 9 #[str [120]]) (hg : Blk w g 9 #[str [120]]) (hg0 : w0 ≤ g) (hgv : v.ownBlock ≠ some g)
    (q1 : w'.ownsRow w0 28 9 v' (k + 1) (((List.range k).flatMap fun q => fopl q (B q)) ++ fopl k g)) (q2 : w.grownBy w' v.ownBlock) (q3 : ∀ b, v'.ownBlock = some b → v.ownBlock = some b ∨ w.heap.size ≤ b) : FilOwn w0 v' (k + 1) w' := by
  have key : ∀ b, v.ownBlock ≠ some b → Blk w b 9 #[str [120]] → v'.ownBlock ≠ some b ∧ Blk w' b 9 #[str [120]] := fun b h1 h2 => by
    have hlt := h2.lt
    refine ⟨fun h => ?_, h2.keep (q2.block b hlt (Ne.symm h1))⟩
    rcases q3 b h with h | h
    · exact h1 h
    · omega
  refine ⟨fun q => if q = k then g else B q, ?_, fun q hq => ?_⟩
  · rw [List.range_succ, List.flatMap_append]
    have e : ((List.range k).flatMap fun q => fopl q (if q = k then g else B q)) = (List.range k).flatMap fun q => fopl q (B q) := fop_range_eq (fun q hq => by rw [if_neg (by omega)])
    rw [e]
    simpa using q1
  · by_cases e : q = k
    · subst e
      simp only [if_true]
      exact ⟨hg0, key g hgv hg⟩
    · simp only [if_neg e]
      obtain ⟨h1, h2, h3⟩ := hB q (by omega)
      exact ⟨h1, key _ h2 h3⟩
/-- As ops that are read. -/
theorem FilOwn.ops {w0 : Nat} {v : Value} {k : Nat} {wr : World} (h : FilOwn w0 v k wr) (h1 : 1 ≤ k) : ∃ b c, v = .slice (some ⟨b, 0, none⟩) (Sp.fills k).length c ∧ OpsAt (fun b => w0 ≤ b ∧ b < wr.heap.size) wr (some ⟨b, 0, none⟩) (Sp.fills k) := by
  obtain ⟨B, ho, hB⟩ := h
  obtain ⟨b, c', rfl⟩ := own_form' ho h1
  have hb := ho.lt b rfl
  refine ⟨b, c', by rw [Sp.fills_len], .inr ⟨b, 0, rfl, ⟨hb.1, hb.2⟩, hb.2, fun j hj => ?_⟩⟩
  rw [Sp.fills_len] at hj
  obtain ⟨g1, g2, g3⟩ := hB j hj
  have e : (Sp.fills k)[j]'(by rw [Sp.fills_len]; exact hj) = Sp.fillOp (j + 1) := by simp [Sp.fills]
  rw [e]
  refine ⟨some ⟨B j, 0, none⟩, 1, .inr ⟨B j, 0, rfl⟩, ⟨rfl, fun _ => ⟨B j, 0, rfl, ⟨g1, g3.lt⟩, g3.lt, fun i u hu => ?_⟩⟩, fun i u hu => ?_⟩
  · rw [Nat.zero_add]
    exact (g3.cell i).trans (by rw [List.getElem?_toArray]; exact hu)
  · have hi : i < 9 := by
      rcases Nat.lt_or_ge i 9 with h | h
      · exact h
      · rw [Array.getElem?_eq_none (by show 9 ≤ i; exact h)] at hu; cases hu
    have e2 := flat9_get (fun q => fopl q (B q)) (fun _ => rfl) k j i hj hi
    have hu' : (fopl j (B j))[i]? = some u := by rw [← hu]; simp [opCs, fopl, Sp.fillOp]
    rw [hu'] at e2
    have := ho.cells (g := b) rfl (j * 9 + i) u e2
    have e3 : (⟨b, 0, none⟩ : Addr).add (j * 9 + i) = ⟨b, 0 + j * 9 + i, none⟩ := by
      rw [Nat.zero_add]
      cases j * 9 + i <;> simp [Addr.add]
    rw [e3] at this; exact this
end Go.Proofs.YtclpmkinjjhncaaGreat

/- The walk of the law ActFrames. -/
namespace Go.Proofs.YtclpmkinjjhncaaGreat
open Go.RowKit Go.Conc

/-- What the law holds on its way. -/
structure FrAt (w0 : World) (K : Foot) (W : World) (gk gd gl gp ga : Nat) (lg : Sp.Lg) (s : Sp.R15) : Prop where
  pk : PkAt ly17 K W gd gl gp lg s
  desk : Blk W gk 35 (deskCs gd gl gp ga)
  act : Blk W ga 111 #[ptr gp, ptr gl]
  kk : K gk
  ka : K ga
  bw : Below w0.heap.size w0 W
  k0 : ∀ b, b < w0.heap.size → K b
section
variable {w0 : World} {K : Foot} {W W' : World} {gk gd gl gp ga : Nat} {lg lg' : Sp.Lg} {s s' : Sp.R15}
theorem FrAt.more (h : FrAt w0 K W gk gd gl gp ga lg s) (hb : Below W.heap.size W W') : ∃ K' : Foot, (∀ b, K b → K' b) ∧ (∀ b, W.heap.size ≤ b → b < W'.heap.size → K' b) ∧ FrAt w0 K' W' gk gd gl gp ga lg s :=
  ⟨fun b => K b ∨ (W.heap.size ≤ b ∧ b < W'.heap.size), fun _ h => .inl h, fun _ h1 h2 => .inr ⟨h1, h2⟩, h.pk.more hb (fun _ h => h), h.desk.below hb h.desk.lt, h.act.below hb h.act.lt, .inl h.kk, .inl h.ka, h.bw.trans (hb.mono h.bw.size), fun b hb => .inl (h.k0 b hb)⟩
theorem FrAt.step (h : FrAt w0 K W gk gd gl gp ga lg s) (hk : Kept K W W') (hp : PkAt ly17 K W' gd gl gp lg' s') : FrAt w0 K W' gk gd gl gp ga lg' s' :=
  ⟨hp, h.desk.kept hk h.kk, h.act.kept hk h.ka, h.kk, h.ka, h.bw.trans ⟨hk.os, hk.tape, hk.output, hk.size, fun b hb => hk.block b (h.k0 b hb)⟩, h.k0⟩
end

theorem in_ids {i n : Nat} (h1 : 1 ≤ i) (h2 : i ≤ n) : i ∈ Sp.ids n := List.mem_map.2 ⟨i - 1, List.mem_range.2 (by omega), by omega⟩
theorem one_in {f n : Nat} (hf : 1 ≤ f) (hn : 1 ≤ n) : 1 ∈ (Sp.ids n).take f := by
  obtain ⟨m, rfl⟩ : ∃ m, n = m + 1 := ⟨n - 1, by omega⟩
  obtain ⟨k, rfl⟩ : ∃ k, f = k + 1 := ⟨f - 1, by omega⟩
  unfold Sp.ids
  rw [List.range_succ_eq_map]
  simp
set_option maxRecDepth 100000 in
set_option maxHeartbeats 8000000 in
theorem law_actFrames (fr pg : Nat) (hfr : fr < 256) (hpg : pg < 256) (w : World) : Calls Tryz.prog 3 #[.int .u8 fr, .int .u8 pg] w fun e w' => e = .returned (.bool true) ∧ Below w.heap.size w w' := by
  obtain ⟨f, hf⟩ : ∃ f, f = 1 + fr % 6 := ⟨_, rfl⟩
  obtain ⟨n, hn⟩ : ∃ n, n = 1 + pg % 8 := ⟨_, rfl⟩
  have e1 := Lib.hid (show (1 : Int) + (fr : Int) % 6 = (f : Int) by omega)
  have e2 := Lib.hid (show (1 : Int) + (pg : Int) % 8 = (n : Int) by omega)
  have hf1 : 1 ≤ f := by omega
  have hf6 : f ≤ 6 := by omega
  have hn1 : 1 ≤ n := by omega
  have hn8 : n ≤ 8 := by omega
  clear hf hn
  have HM := Lib.hid (law17_made (w := w) (l := []) f (by omega) (by omega) rfl (fun q h1 h2 => first_zero h1 h2))
  have HAV := Lib.hid fun (W : World) => law17_alive W
  go_enter Tryz.func3, Tryz.ntmps3
  go_wp2_with fail
  rw [e1.out, e2.out]
  refine HM.out.mono ?_
  rintro e w1 ⟨gk, gd, gl, gp, ga, rfl, hK, hA, hP, hb⟩
  have HF := Lib.hid (show FrAt w _ w1 gk gd gl gp ga (Sp.newLg 0 64 1) (Sp.st17 f) from ⟨hP, hK, hA, .inr (.inl rfl), .inr (.inr rfl), hb, fun b hb => .inl hb⟩)
  clear hP hK hA hb HM e1 e2
  go_wp2_with fail
  go_loopw [8, 9] (fun v8 v9 wr => ∃ (k : Nat) (u : Value), u = v8 ∧ k ≤ n ∧ v9 = .int .i64 k ∧ FilOwn w1.heap.size u k wr ∧ Below w1.heap.size w1 wr) (fun _ v9 _ => n - (intOf v9).toNat)
  case atStart => exact ⟨0, _, rfl, by omega, rfl, FilOwn.zero _ _, Below.refl _ _⟩
  case round =>
    obtain ⟨k, u, rfl, hk, rfl, hown, hbr⟩ := hrel
    by_cases hlt : k < n
    · obtain ⟨ip, hip, hp0, hp1, hp2⟩ := info_parts op_info
      obtain ⟨B, ho, hB⟩ := hown
      have hs1 : w1.heap.size ≤ wr.heap.size := hbr.size
      have hgv : u.ownBlock ≠ some wr.heap.size := fun e => by have := (ho.lt _ e).2; omega
      have hBs : ∀ q, q < k → w1.heap.size ≤ B q ∧ u.ownBlock ≠ some (B q) ∧ Blk ((wr.alloc (.cells #[str [120]] 9)).alloc (.cells (fopl k wr.heap.size).toArray 28)) (B q) 9 #[str [120]] := fun q hq => by
        obtain ⟨h1, h2, h3⟩ := hB q hq
        exact ⟨h1, h2, (h3.alloc _).alloc _⟩
      have hg := (Blk.new wr 9 #[str [120]]).alloc (.cells (fopl k wr.heap.size).toArray 28)
      have hO := Blk.new (wr.alloc (.cells #[str [120]] 9)) 28 (fopl k wr.heap.size).toArray
      have hb2 := (hbr.alloc hs1 (.cells #[str [120]] 9)).alloc (by simp; omega) (.cells (fopl k wr.heap.size).toArray 28)
      have HO := Lib.hid ho
      rw [show (wr.alloc (.cells #[str [120]] 9)).heap.size = wr.heap.size + 1 by simp] at hO
      have HN := Lib.hid (blk_news (cs := fopl k wr.heap.size) hO)
      have HBS := Lib.hid hBs
      have HG := Lib.hid hg
      have HB2 := Lib.hid hb2
      have HGV := Lib.hid hgv
      have wr32 : IntKind.u32.wrap ((k : Int) + 1) = ((k + 1 : Nat) : Int) := by rw [IntKind.wrap_u32]; omega
      clear ho hB hgv hBs hg hO hb2 hbr HF HAV
      go_wp2_with (at_builtin; refine wpList_append_own2 _ rfl _ _ 24 rfl w1.heap.size 28 ip opZero 9 72 Tryz.underlying24 hip hp0 hp1 hp2 rfl (by decide) _ k _ rfl ((HO.out.alloc _).alloc _) ⟨wr.heap.size + 1, 0, none⟩ 1 1 (fopl k wr.heap.size) rfl rfl HN.out (fun x hx => by simp [fopl] at hx; rcases hx with rfl | rfl | rfl | rfl | rfl | rfl | rfl | rfl | rfl <;> rfl) (by unfold maxLen; omega) (by omega) (by simp; omega) ?_; intro v' w7 q1 q2 q3)
      have hb7 := HB2.out.grown q2 (by simp; omega) (fun r e => row_base HO.out e)
      have HF7 := Lib.hid (FilOwn.more HBS.out HG.out hs1 HGV.out q1 q2 q3)
      have HB7 := Lib.hid hb7
      clear q1 q2 q3 hb7 HO HN HBS HG HB2 HGV
      go_roundw
      case rel => exact ⟨k + 1, v', rfl, hlt, by go_num, HF7.out, HB7.out⟩
      case measure => simp [intOf]; omega
    · obtain rfl : n = k := by omega
      obtain ⟨bl, cl, rfl, hops⟩ := hown.ops hn1
      obtain ⟨K2, hKK, hKN, h2⟩ := HF.out.more hbr
      have HF2 := Lib.hid h2
      have HNX : Hid (Calls Tryz.prog 8 #[ptr gl] wr fun e w' => e = .returned (.int .u64 110) ∧ w' = wr) := pk_next h2.pk
      have c1 := h2.desk.cell 1
      have c3 := h2.desk.cell 3
      simp only [List.getElem?_toArray, List.getElem?_cons_succ, List.getElem?_cons_zero] at c1 c3
      by_cases hnf : f < n
      · have HDO := Lib.hid (act_fills_full (D := none) (T := none) (cd := 0) (ct := 0) (cl := cl) hn1 hn8 hnf h2.pk h2.act h2.ka hops (fun c hc => hKN c hc.1 hc.2))
        have q1 : decide ((f : Int) < (n : Int)) = true := by simpa using hnf
        clear h2 hops hbr hown HF hKK hKN
        go_wp2_with fail
        refine HNX.out.mono ?_
        rintro e w2 ⟨rfl, hw2⟩
        subst w2
        clear HNX
        go_wp2_with fail
        refine HDO.out.mono ?_
        rintro e w3 ⟨rfl, hk3, hp3⟩
        have h3 := HF2.out.step hk3 hp3
        have HF3 := Lib.hid h3
        have HPG := Lib.hid (act_page_G (g := Sp.zeroI) (k := 1) h3.pk h3.act h3.ka rfl rfl (Sp.pick_id []) ((List.take_sublist f _).nodup (Sp.fills_nodup n)) (fun _ => rfl) (one_in hf1 hn1) (by omega))
        have c3' := h3.desk.cell 3
        simp only [List.getElem?_toArray, List.getElem?_cons_succ, List.getElem?_cons_zero] at c3'
        clear c1 c3 HDO HF2 hk3 hp3 h3
        go_wp2_with fail
        refine HPG.out.mono ?_
        rintro e w4 ⟨A, c, rfl, hp4, hk4⟩
        have h4 := HF3.out.step hk4 hp4
        have hb5 := (Below.refl w4.heap.size w4).alloc (Nat.le_refl _) (.cells (pgCs (Sp.pick [] 1) A c) 50)
        have hX := Blk.new w4 50 (pgCs (Sp.pick [] 1) A c)
        obtain ⟨K5, hKK5, hKN5, h5⟩ := h4.more hb5
        have HF5 := Lib.hid h5
        have HNX : Hid (Calls Tryz.prog 8 #[ptr gl] (w4.alloc (.cells (pgCs (Sp.pick [] 1) A c) 50)) fun e w' => e = .returned (.int .u64 110) ∧ w' = w4.alloc (.cells (pgCs (Sp.pick [] 1) A c) 50)) := pk_next h5.pk
        have HPI := Lib.hid (pk_pins h5.pk (id := 1) (by omega))
        rw [Sp.pins_G rfl (Sp.pick_id []) (fun _ => rfl)] at HPI
        have d1 := h5.desk.cell 1
        have d2 := h5.desk.cell 2
        have x5 : (w4.alloc (.cells (pgCs (Sp.pick [] 1) A c) 50)).cell? ⟨w4.heap.size, 5, none⟩ = some (.slice A 0 c) := hX.cell 5
        simp only [List.getElem?_toArray, List.getElem?_cons_succ, List.getElem?_cons_zero] at d1 d2
        have hBW := Lib.hid h5.bw
        clear c3' HPG HF3 hk4 hp4 h4 hb5 hX h5 hKK5 hKN5 HF5
        go_upto_region 15 with fail
        change Code.wp _ _ _ _ (w4.alloc (.cells (pgCs (Sp.pick [] 1) A c) 50))
        generalize w4.alloc (.cells (pgCs (Sp.pick [] 1) A c) 50) = w5 at HNX HPI d1 d2 x5 hBW ⊢
        go_wp2_with fail
        refine HNX.out.mono ?_
        rintro e w6 ⟨rfl, hw6⟩
        subst w6
        go_wp2_with fail
        refine HPI.out.mono ?_
        rintro e w6 ⟨rfl, hw6⟩
        subst w6
        go_wp2_with fail
        refine (HAV.out _).mono ?_
        rintro e w6 ⟨rfl, hb6⟩
        have hbf := Lib.hid (hBW.out.trans (hb6.mono hBW.out.size))
        clear hb6
        go_wp2_with fail
        go_ret
        exact ⟨rfl, hbf.out⟩
      · obtain ⟨t, ht⟩ : ∃ t, (Sp.record Sp.nest (Sp.fills n)).1 = t := ⟨_, rfl⟩
        have HDO := Lib.hid (act_fills_ok (D := none) (T := none) (cd := 0) (ct := 0) (cl := cl) ht hn1 hn8 (by omega) h2.pk h2.act h2.ka hops (fun c hc => hKN c hc.1 hc.2))
        have q1 : decide ((f : Int) < (n : Int)) = false := by simpa using hnf
        clear h2 hops hbr hown HF hKK hKN ht
        go_wp2_with fail
        refine HNX.out.mono ?_
        rintro e w2 ⟨rfl, hw2⟩
        subst w2
        clear HNX
        go_wp2_with fail
        refine HDO.out.mono ?_
        rintro e w3 ⟨rfl, hk3, hp3⟩
        have HF3 := Lib.hid (HF2.out.step hk3 hp3)
        clear c1 c3 HDO HF2 hk3 hp3
        go_wp2_with fail
        go_loopw [15] (fun v15 wr => ∃ (i : Nat) (K : Foot) (ks : List Nat), 1 ≤ i ∧ i ≤ n + 1 ∧ v15 = .int .i64 i ∧ ks.Nodup ∧ (∀ q, q ∈ ks ↔ q ∈ Sp.ids n) ∧ FrAt w K wr gk gd gl gp ga ((Sp.newLg 0 64 1).append t) { Sp.st17 f with next := 110 + (14 + t.length), L := ks.map Sp.fillI }) (fun v15 _ => n + 1 - (intOf v15).toNat)
        case atStart => exact ⟨1, _, _, by omega, by omega, rfl, Sp.fills_nodup n, fun _ => Iff.rfl, HF3.out⟩
        case round =>
          obtain ⟨i, K4, ks, hi1, hi, rfl, hn4, hm4, h4⟩ := hrel
          clear HF3
          by_cases hin : i ≤ n
          · have hmem : i ∈ ks := (hm4 i).2 (in_ids hi1 hin)
            have HPG := Lib.hid (act_page_G (g := Sp.fillI) (k := i) h4.pk h4.act h4.ka rfl rfl (fun _ => rfl) hn4 (fun _ => rfl) hmem (by omega))
            have c3 := h4.desk.cell 3
            simp only [List.getElem?_toArray, List.getElem?_cons_succ, List.getElem?_cons_zero] at c3
            have q3 : decide ((i : Int) ≤ (n : Int)) = true := by rw [decide_eq_true_eq]; omega
            have wr32 : IntKind.u32.wrap (i : Int) = (i : Int) := by rw [IntKind.wrap_u32]; omega
            have HF4 := Lib.hid h4
            clear h4 HAV
            go_wp2_with fail
            refine HPG.out.mono ?_
            rintro e w5 ⟨A, c, rfl, hp5, hk5⟩
            have h5 := HF4.out.step hk5 hp5
            have hb6 := (Below.refl w5.heap.size w5).alloc (Nat.le_refl _) (.cells (pgCs (Sp.filled i) A c) 50)
            have hX := Blk.new w5 50 (pgCs (Sp.filled i) A c)
            obtain ⟨K6, hKK6, hKN6, h6⟩ := h5.more hb6
            have HF6 := Lib.hid h6
            have HPI := Lib.hid (pk_pins h6.pk (id := i) (by omega))
            rw [Sp.pins_G rfl (fun _ => rfl) (fun _ => rfl)] at HPI
            have d2 := h6.desk.cell 2
            have x3 : (w5.alloc (.cells (pgCs (Sp.filled i) A c) 50)).cell? ⟨w5.heap.size, 3, none⟩ = some (.int .u64 110) := hX.cell 3
            have x5 : (w5.alloc (.cells (pgCs (Sp.filled i) A c) 50)).cell? ⟨w5.heap.size, 5, none⟩ = some (.slice A 1 c) := hX.cell 5
            simp only [List.getElem?_toArray, List.getElem?_cons_succ, List.getElem?_cons_zero] at d2
            clear c3 HPG HF4 hk5 hp5 h5 hb6 hX h6 hKK6 hKN6
            go_upto_region 20 with fail
            change Code.wp _ _ _ _ (w5.alloc (.cells (pgCs (Sp.filled i) A c) 50))
            generalize w5.alloc (.cells (pgCs (Sp.filled i) A c) 50) = w6 at HPI d2 x3 x5 HF6 ⊢
            go_wp2_with fail
            refine HPI.out.mono ?_
            rintro e w7 ⟨rfl, hw7⟩
            subst w7
            go_wp2_with fail
            go_roundw
            case rel => exact ⟨i + 1, K6, _, by omega, by omega, by go_num, Sp.moved_nodup hn4 i, fun q => (Sp.moved_mem hmem q).trans (hm4 q), HF6.out⟩
            case measure => simp [intOf]; omega
          · have q3 : decide ((i : Int) ≤ (n : Int)) = false := by rw [decide_eq_false_iff_not]; omega
            have hBW := Lib.hid h4.bw
            clear h4
            go_wp2_with fail
            refine (HAV.out _).mono ?_
            rintro e w6 ⟨rfl, hb6⟩
            have hbf := Lib.hid (hBW.out.trans (hb6.mono hBW.out.size))
            clear hb6
            go_wp2_with fail
            go_ret
            exact ⟨rfl, hbf.out⟩
end Go.Proofs.YtclpmkinjjhncaaGreat
