/- PoolPins' own law on plain lists: no program in sight. -/
import Derived.Test.YtbpjgdbkmnhnmaaGreatMP
import Derived.Deep.DeepCutAuto

namespace Go.Proofs.YtbpjgdbkmnhnmaaGreat.Sp

/-- me is pinned, the others are not. -/
def ppL (me : Nat) (R : List Nat) : List (Nat × Nat) := (me, 1) :: R.map fun k => (k, 0)
/-- the row after k. -/
def ppStep (n : Nat) (R : List Nat) (k : Nat) : List Nat :=
  let m := R.filter (fun x => x != k) ++ [k]
  if n - 1 < m.length then m.drop 1 else m
structure PpRow (n me : Nat) (R : List Nat) : Prop where
  nd : R.Nodup
  me : me ∉ R
  len : R.length ≤ n - 1

theorem filter_ne_self {R : List Nat} {k : Nat} (h : k ∉ R) : R.filter (fun x => x != k) = R := by
  rw [List.filter_eq_self]
  intro x hx
  have : x ≠ k := fun e => h (e ▸ hx)
  simpa using this
theorem aHas_pp {me k : Nat} {R : List Nat} (hk : k ≠ me) : aHas (ppL me R) k = decide (k ∈ R) := by
  unfold aHas ppL
  rw [List.any_cons, List.any_map, Bool.eq_iff_iff, Bool.or_eq_true, List.any_eq_true]
  simp only [Function.comp, beq_iff_eq, decide_eq_true_eq]
  constructor
  · rintro (h | ⟨x, hx, rfl⟩)
    · exact absurd h.symm hk
    · exact hx
  · exact fun h => .inr ⟨k, h, rfl⟩
theorem filter_len : ∀ {R : List Nat} {k : Nat}, R.Nodup → k ∈ R → (R.filter (fun x => x != k)).length + 1 = R.length
  | x :: R, k, hn, hm => by
    rw [List.nodup_cons] at hn
    by_cases e : x = k
    · subst e
      rw [List.filter_cons_of_neg (by simp), filter_ne_self hn.1, List.length_cons]
    · rw [List.filter_cons_of_pos (by simpa using e), List.length_cons, List.length_cons]
      rcases List.mem_cons.1 hm with h | h
      · exact absurd h.symm e
      · have := filter_len hn.2 h; omega

theorem pp_pin {n me k : Nat} {R : List Nat} (h2 : 2 ≤ n) (h : PpRow n me R) (hk : k ≠ me) :
    ∃ Q, aPin n (ppL me R) k = some ((me, 1) :: (Q.map (fun x => (x, 0)) ++ [(k, 1)])) ∧ ppStep n R k = Q ++ [k] ∧ k ∉ Q := by
  obtain ⟨hnd, hme, hlen⟩ := h
  by_cases hm : k ∈ R
  · refine ⟨R.filter (fun x => x != k), ?_, ?_, ?_⟩
    · unfold aPin
      rw [aHas_pp hk, if_pos (by simpa using hm)]
      unfold aUp ppL
      rw [List.filter_cons_of_pos (by simpa using Ne.symm hk), List.filter_cons_of_neg (by simpa using Ne.symm hk)]
      have e1 : (R.map fun k => (k, 0)).filter (fun x : Nat × Nat => x.1 != k) = (R.filter (fun x => x != k)).map fun x => (x, 0) := by
        rw [List.filter_map]; rfl
      have e2 : (R.map fun k => (k, 0)).filter (fun x : Nat × Nat => x.1 == k) = [(k, 0)] := by
        rw [List.filter_map]
        have e3 : ((fun x : Nat × Nat => x.1 == k) ∘ fun k => (k, 0)) = fun x => x == k := rfl
        rw [e3, filter_one hnd hm]; rfl
      rw [e1, e2]; rfl
    · unfold ppStep
      have := filter_len hnd hm
      simp only [List.length_append, List.length_singleton]
      rw [if_neg (by omega)]
    · simp
  · have hf := filter_ne_self hm
    have hna : aHas (ppL me R) k = false := by rw [aHas_pp hk]; simpa using hm
    have hl : (ppL me R).length = R.length + 1 := by simp [ppL]
    by_cases hr : R.length + 1 < n
    · refine ⟨R, ?_, ?_, hm⟩
      · unfold aPin
        rw [hna, if_neg (by simp), if_pos (by omega)]
        rfl
      · unfold ppStep
        simp only [hf, List.length_append, List.length_singleton]
        rw [if_neg (by omega)]
    · match R, hlen, hr, hl, hna, hf, hm, hme with
      | [], _, hr, _, _, _, _, _ => simp at hr; omega
      | r :: R, hlen, hr, hl, hna, hf, hm, hme =>
        refine ⟨R, ?_, ?_, fun h => hm (List.mem_cons_of_mem _ h)⟩
        · unfold aPin
          rw [hna, if_neg (by simp), if_neg (by omega)]
          unfold ppL
          rw [aDrop, if_neg (by simp), List.map_cons, aDrop, if_pos rfl]
          rfl
        · unfold ppStep
          simp only [hf, List.length_append, List.length_singleton]
          rw [if_pos (by omega)]
          rfl
theorem pp_unpin {me k : Nat} {Q : List Nat} (hk : k ≠ me) (hq : k ∉ Q) : aUnpin ((me, 1) :: (Q.map (fun x => (x, 0)) ++ [(k, 1)])) k = ppL me (Q ++ [k]) := by
  unfold aUnpin ppL
  rw [List.map_cons, List.map_append, List.map_append, if_neg (Ne.symm hk)]
  congr 2
  · rw [List.map_map]
    apply List.map_congr_left
    intro x hx
    have : x ≠ k := fun e => hq (e ▸ hx)
    simp [Function.comp, this]
  · simp
theorem pp_step {n me k : Nat} {R : List Nat} (h : PpRow n me R) (hk : k ≠ me) : PpRow n me (ppStep n R k) := by
  obtain ⟨hnd, hme, hlen⟩ := h
  have hf : (R.filter (fun x => x != k) ++ [k]).Nodup := by
    rw [List.nodup_append]
    refine ⟨hnd.filter _, by simp, ?_⟩
    intro a ha b hb
    rw [List.mem_singleton.1 hb]
    simpa using (List.mem_filter.1 ha).2
  have hm : me ∉ R.filter (fun x => x != k) ++ [k] := by
    rw [List.mem_append, List.mem_singleton]
    rintro (h | h)
    · exact hme (List.mem_filter.1 h).1
    · exact hk h.symm
  have hl : (R.filter (fun x => x != k)).length ≤ R.length := List.length_filter_le _ _
  unfold ppStep
  simp only
  split
  · exact ⟨hf.sublist (List.drop_sublist _ _), fun h => hm (List.mem_of_mem_drop h), by rw [List.length_drop, List.length_append, List.length_singleton]; omega⟩
  · exact ⟨hf, hm, by omega⟩

/-- What holds once the pages below j have been pinned. -/
structure PpEnd (n me j : Nat) (L : List (Nat × Nat)) : Prop where
  me : (me, 1) ∈ L
  small : ∀ x ∈ L, x.2 ≤ j
  len : L.length ≤ n
  full : L.length = n ∨ ∀ k, 1 ≤ k → k < j → k ∈ L.map (·.1)
theorem aUp_len (L : List (Nat × Nat)) (k : Nat) : (aUp L k).length = L.length := by
  unfold aUp
  rw [List.length_append, List.length_map]
  induction L with
  | nil => rfl
  | cons x L ih =>
    by_cases e : x.1 = k
    · rw [List.filter_cons_of_neg (by simpa using e), List.filter_cons_of_pos (by simpa using e), List.length_cons, List.length_cons]; omega
    · rw [List.filter_cons_of_pos (by simpa using e), List.filter_cons_of_neg (by simpa using e), List.length_cons, List.length_cons]; omega
theorem aUp_ids {L : List (Nat × Nat)} {k x : Nat} (h : x ∈ L.map (·.1)) : x ∈ (aUp L k).map (·.1) := by
  obtain ⟨y, hy, rfl⟩ := List.mem_map.1 h
  unfold aUp
  rw [List.map_append, List.mem_append]
  by_cases e : y.1 = k
  · right
    rw [List.map_map]
    exact List.mem_map.2 ⟨y, List.mem_filter.2 ⟨hy, by simpa using e⟩, rfl⟩
  · left
    exact List.mem_map.2 ⟨y, List.mem_filter.2 ⟨hy, by simpa using e⟩, rfl⟩
theorem aDrop_spec : ∀ {L L' : List (Nat × Nat)}, aDrop L = some L' → L'.length + 1 = L.length ∧ (∀ x ∈ L', x ∈ L) ∧ ∀ x ∈ L, 0 < x.2 → x ∈ L'
  | [], _, h => by simp [aDrop] at h
  | y :: L, L', h => by
    rw [aDrop] at h
    split at h
    · rename_i h0
      injection h with h
      subst h
      refine ⟨rfl, fun x hx => List.mem_cons_of_mem _ hx, fun x hx hp => ?_⟩
      rcases List.mem_cons.1 hx with rfl | hx
      · omega
      · exact hx
    · obtain ⟨M, hM, rfl⟩ := Option.map_eq_some_iff.1 h
      obtain ⟨h1, h2, h3⟩ := aDrop_spec hM
      refine ⟨by rw [List.length_cons, List.length_cons, h1], fun x hx => ?_, fun x hx hp => ?_⟩
      · rcases List.mem_cons.1 hx with rfl | hx
        · exact List.mem_cons_self
        · exact List.mem_cons_of_mem _ (h2 x hx)
      · rcases List.mem_cons.1 hx with rfl | hx
        · exact List.mem_cons_self
        · exact List.mem_cons_of_mem _ (h3 x hx hp)
theorem pe_some {n me j : Nat} {L L' : List (Nat × Nat)} (h : PpEnd n me j L) (hj : j ≠ me) (e : aPin n L j = some L') (hl : L'.length ≤ n) : PpEnd n me (j + 1) L' := by
  unfold aPin at e
  split at e
  · injection e with e
    subst e
    rename_i ha
    refine ⟨?_, fun x hx => ?_, hl, ?_⟩
    · unfold aUp
      exact List.mem_append.2 (.inl (List.mem_filter.2 ⟨h.me, by simpa using Ne.symm hj⟩))
    · unfold aUp at hx
      rcases List.mem_append.1 hx with hx | hx
      · exact Nat.le_succ_of_le (h.small x (List.mem_filter.1 hx).1)
      · obtain ⟨y, hy, rfl⟩ := List.mem_map.1 hx
        exact Nat.succ_le_succ (h.small y (List.mem_filter.1 hy).1)
    · rcases h.full with hf | hf
      · exact .inl (by rw [aUp_len]; exact hf)
      · refine .inr fun k h1 h2 => aUp_ids ?_
        by_cases hk : k = j
        · subst hk
          unfold aHas at ha
          obtain ⟨x, hx, hx2⟩ := List.any_eq_true.1 ha
          exact List.mem_map.2 ⟨x, hx, by simpa using hx2⟩
        · exact hf k h1 (by omega)
  · split at e
    · injection e with e
      subst e
      refine ⟨List.mem_append.2 (.inl h.me), fun x hx => ?_, hl, ?_⟩
      · rcases List.mem_append.1 hx with hx | hx
        · exact Nat.le_succ_of_le (h.small x hx)
        · rw [List.mem_singleton.1 hx]; show 1 ≤ j + 1; omega
      · rename_i hlt
        rcases h.full with hf | hf
        · omega
        · refine .inr fun k h1 h2 => ?_
          rw [List.map_append, List.mem_append]
          by_cases hk : k = j
          · exact .inr (by rw [hk]; simp)
          · exact .inl (hf k h1 (by omega))
    · obtain ⟨M, hM, rfl⟩ := Option.map_eq_some_iff.1 e
      obtain ⟨h1, h2, h3⟩ := aDrop_spec hM
      refine ⟨List.mem_append.2 (.inl (h3 _ h.me (by show 0 < 1; omega))), fun x hx => ?_, hl, .inl ?_⟩
      · rcases List.mem_append.1 hx with hx | hx
        · exact Nat.le_succ_of_le (h.small x (h2 x hx))
        · rw [List.mem_singleton.1 hx]; show 1 ≤ j + 1; omega
      · have := h.len
        rw [List.length_append, List.length_singleton]; omega
theorem pe_none {n me j : Nat} {L : List (Nat × Nat)} (h : PpEnd n me j L) (e : aPin n L j = none) : PpEnd n me (j + 1) L := by
  unfold aPin at e
  split at e
  · cases e
  · split at e
    · cases e
    · have := h.len
      exact ⟨h.me, fun x hx => Nat.le_succ_of_le (h.small x hx), h.len, .inl (by omega)⟩
theorem pe_skip {n me j : Nat} {L : List (Nat × Nat)} (h : PpEnd n me j L) (hj : j = me) : PpEnd n me (j + 1) L := by
  refine ⟨h.me, fun x hx => Nat.le_succ_of_le (h.small x hx), h.len, ?_⟩
  rcases h.full with hf | hf
  · exact .inl hf
  · refine .inr fun k h1 h2 => ?_
    by_cases hk : k = j
    · rw [hk, hj]
      exact List.mem_map.2 ⟨_, h.me, rfl⟩
    · exact hf k h1 (by omega)
theorem pe_done {n me : Nat} {L : List (Nat × Nat)} (h : PpEnd n me 7 L) (h5 : n ≤ 5) : L.length = n := by
  rcases h.full with hf | hf
  · exact hf
  · exfalso
    have hsub : [1, 2, 3, 4, 5, 6] ⊆ L.map (·.1) := fun k hk => hf k (by simp at hk; omega) (by simp at hk; omega)
    have := List.Nodup.length_le_of_subset (by decide : [1, 2, 3, 4, 5, 6].Nodup) hsub
    rw [List.length_map] at this
    have := h.len
    simp at *
    omega
theorem pe_first {n me : Nat} {R : List Nat} (h2 : 2 ≤ n) (h : PpRow n me R) : PpEnd n me 1 (ppL me R) := by
  refine ⟨List.mem_cons_self, fun x hx => ?_, ?_, .inr fun k h1 h2 => by omega⟩
  · rcases List.mem_cons.1 hx with rfl | hx
    · exact Nat.le_refl _
    · obtain ⟨y, _, rfl⟩ := List.mem_map.1 hx
      exact Nat.zero_le _
  · have := h.len
    simp [ppL]; omega
end Go.Proofs.YtbpjgdbkmnhnmaaGreat.Sp

/- The walk of the law package pentimentolaw15: PoolPins. -/
namespace Go.Proofs.YtbpjgdbkmnhnmaaGreat
open Go.RowKit Go.Conc

def u8v (n : Nat) : Value := .int .u8 (n : Int)

theorem add0 (g j : Nat) : (⟨g, 0, none⟩ : Addr).add j = ⟨g, j, none⟩ := by cases j <;> simp [Addr.add]

/-- What holds at the head of PoolPins' first loop. -/
def PpHead (w : World) (gP gd gl gp gr n me : Nat) (R : List Nat) (v : Value) (wr : World) : Prop :=
  ∃ A c rb, v = .slice A R.length c ∧ Reads (only rb) wr 1 A R.length (R.map u32v) ∧ LpAt (fun b => (b < w.heap.size ∨ b = gP) ∨ b = rb) wr gd gl gp n (Sp.ppL me R) ∧
    Blk wr gP 38 #[ptr gd, ptr gl, ptr gp, ptr gr] ∧ Sp.PpRow n me R ∧ Below w.heap.size w wr

set_option maxRecDepth 100000 in
set_option maxHeartbeats 4000000 in
theorem law_pins (f s : Nat) (hf : f < 256) (hs : s < 256) (A : Option Addr) (cap : Nat) (ls : List Nat) (h60 : ls.length ≤ 60) (hls : ∀ x ∈ ls, x < 256) (w : World) (hR : Reads (fun b => b < w.heap.size) w 1 A ls.length (ls.map u8v)) :
    Calls Tryz.prog 3 #[u8v f, u8v s, .slice A ls.length cap] w fun e w' => e = .returned (.bool true) ∧ Below w.heap.size w w' := by
  obtain ⟨n, hn⟩ : ∃ n, n = 2 + f % 4 := ⟨_, rfl⟩
  obtain ⟨me, hme⟩ : ∃ me, me = 1 + s % 6 := ⟨_, rfl⟩
  have hn2 : 2 ≤ n := by omega
  have hn5 : n ≤ 5 := by omega
  have hm1 : 1 ≤ me := by omega
  have hm6 : me ≤ 6 := by omega
  have HB := Lib.hid (law_begun n (by omega) (by omega) w)
  have e1 : (2 : Int) + (f : Int) % 4 = (n : Int) := by omega
  have e2 : (1 : Int) + (s : Int) % 6 = (me : Int) := by omega
  have e1' := Lib.hid e1
  have e2' := Lib.hid e2
  have HR := Lib.hid hR
  have HLS := Lib.hid hls
  clear e1 e2 hn hme hR hls
  unfold u8v
  go_enter Tryz.func3, Tryz.ntmps3
  go_wp2_with fail
  rw [e1'.out]
  clear e1'
  refine HB.out.mono ?_
  rintro e w1 hpost
  obtain ⟨gP, gr, gd, gl, gp, rfl, hP, hb, hL⟩ := begun_lp hpost
  clear hpost HB
  have HL := Lib.hid hL
  have HP := Lib.hid hP
  have c2 := play_cell hP
  clear hL hP
  go_wp2_with fail
  rw [e2'.out]
  clear e2'
  refine (lp_pin_ok HL.out (k := me) (by omega) (by omega) (by simp) (L' := [(me, 1)]) (by unfold Sp.aPin; rw [if_neg (by simp [Sp.aHas]), if_pos (by simp; omega)]; rfl)).mono ?_
  rintro e w2 ⟨A2, c2', rfl, hA, hR, hL, hk⟩
  have HP2 := Lib.hid (HP.out.kept hk (.inr rfl))
  have hb2 := hb.trans (hk.below (fun b hb => .inl hb))
  have hal := (Below.refl w2.heap.size w2).alloc (Nat.le_refl _) (.cells (pgCs (Sp.first me) A2 c2') 30)
  have hl2 := hL.below hal
  have hH : PpHead w gP gd gl gp gr n me [] (.slice none 0 0) (w2.alloc (.cells (pgCs (Sp.first me) A2 c2') 30)) :=
    ⟨none, 0, gP, rfl, Reads.none_, hl2.more (Below.refl _ _) (fun _ h => .inl (h.elim id .inr)), HP2.out.below hal HP2.out.lt, ⟨List.nodup_nil, by simp, by simp⟩, hb2.alloc hb2.size _⟩
  have HH := Lib.hid hH
  clear c2 hA hR hL hk HL HP hb hal hl2 hH hb2 HP2
  go_wp2_with fail
  change Code.wp _ _ _ _ (w2.alloc (.cells (pgCs (Sp.first me) A2 c2') 30))
  obtain ⟨w3, hw3⟩ : ∃ w3, w3 = w2.alloc (.cells (pgCs (Sp.first me) A2 c2') 30) := ⟨_, rfl⟩
  rw [← hw3] at HH ⊢
  clear hw3
  go_loopw [12, 13] (fun v i wr => ∃ (k : Nat) (R : List Nat), k ≤ ls.length ∧ i = .int .i64 k ∧ PpHead w gP gd gl gp gr n me R v wr) (fun _ i _ => ls.length - (intOf i).toNat)
  case atStart => exact ⟨0, [], by omega, rfl, HH.out⟩
  case round =>
    obtain ⟨k, R, hk, rfl, hrel⟩ := hrel
    clear HH
    by_cases hlt : k < ls.length
    · obtain ⟨x, hx⟩ : ∃ x, ls[k]? = some x := ⟨ls[k], List.getElem?_eq_getElem hlt⟩
      have hx256 : x < 256 := HLS.out x (List.mem_of_getElem? hx)
      obtain ⟨b, o, u, rfl, hbw, _, hu, hcell⟩ := HR.out.at_ hlt
      obtain rfl : u = u8v x := by
        have : (ls.map u8v)[k]? = some (u8v x) := by rw [List.getElem?_map, hx]; rfl
        rw [hu] at this; injection this
      obtain ⟨A3, c3, rb, rfl, hRR, hL, hP, hrow, hbel⟩ := hrel
      have hcell := (hbel.cell (p := ⟨b, o + k, none⟩) hbw).trans hcell
      unfold u8v at hcell
      have HRR := Lib.hid hRR
      have HL := Lib.hid hL
      have HP := Lib.hid hP
      have HW := Lib.hid hrow
      have c2 := play_cell hP
      clear hRR hL hP hu hx
      by_cases hkm : 1 + x % 6 = me
      · have hd : decide ((1 : Int) + (x : Int) % 6 = (me : Int)) = true := by rw [decide_eq_true_eq]; omega
        have hd2 : (1 : Int) + (x : Int) % 6 = (me : Int) := by omega
        go_wp2_with fail
        go_roundw
        case rel => exact ⟨k + 1, R, hlt, by go_num, A3, c3, rb, rfl, HRR.out, HL.out, HP.out, HW.out, hbel⟩
        case measure => simp [intOf]; omega
      · have hd : decide ((1 : Int) + (x : Int) % 6 = (me : Int)) = false := by rw [decide_eq_false_iff_not]; omega
        have hd2 : ¬ (1 : Int) + (x : Int) % 6 = (me : Int) := by omega
        obtain ⟨q, hq⟩ : ∃ q, q = 1 + x % 6 := ⟨_, rfl⟩
        have eq := Lib.hid (show (1 : Int) + (x : Int) % 6 = (q : Int) by omega)
        have hq1 : 1 ≤ q := by omega
        have hq6 : q ≤ 6 := by omega
        have hqm : q ≠ me := by omega
        obtain ⟨Q, ha, hQ, hqQ⟩ := Sp.pp_pin hn2 HW.out hqm
        have HA := Lib.hid ha
        have HQ := Lib.hid hQ
        clear hq ha hQ hkm
        go_wp2_with fail
        rw [eq.out]
        clear eq hd hd2 hcell hx256
        refine (lp_pin_ok HL.out (k := q) (by omega) (by omega) (by
          intro y hy
          rcases List.mem_cons.1 hy with rfl | hy
          · show 1 < _; omega
          · obtain ⟨z, _, rfl⟩ := List.mem_map.1 hy; show 0 < _; omega) HA.out).mono ?_
        rintro e w4 ⟨A4, c4, rfl, hA, hR4, hL, hk4⟩
        have HP4 := Lib.hid (HP.out.kept hk4 (.inl (.inr rfl)))
        have hbel4 := hbel.trans (hk4.below (fun b hb => .inl (.inl hb)))
        have HRR4 := Lib.hid (HRR.out.keep hk4.size (fun b hb => hk4.block b (.inr hb)))
        have hal := (Below.refl w4.heap.size w4).alloc (Nat.le_refl _) (.cells (pgCs (Sp.first q) A4 c4) 30)
        have HL5 := Lib.hid (hL.below hal)
        have HP5 := Lib.hid (HP4.out.below hal HP4.out.lt)
        have hbel5 := hbel4.alloc hbel4.size (.cells (pgCs (Sp.first q) A4 c4) 30)
        have HRR5 := Lib.hid (HRR4.out.below hal)
        have c2' := play_cell HP5.out
        have d2 : (w4.alloc (.cells (pgCs (Sp.first q) A4 c4) 30)).cell? ⟨w4.heap.size, 2, none⟩ = some (.int .u32 q) := (Blk.new w4 30 (pgCs (Sp.first q) A4 c4)).cell 2
        clear c2 HRR HL HP hbel hA hR4 hL hk4 HP4 hbel4 HRR4 hal HA
        go_wp2_with fail
        refine (lp_unpin HL5.out (k := q) (m := 1) (by omega) (List.mem_cons_of_mem _ (List.mem_append.2 (.inr (List.mem_singleton.2 rfl)))) (by omega)).mono ?_
        rintro e w6 ⟨rfl, hk6, hL⟩
        rw [Sp.pp_unpin hqm hqQ, ← HQ.out] at hL
        have HP6 := Lib.hid (HP5.out.kept hk6 (.inl (.inr rfl)))
        have hbel6 := hbel5.trans (hk6.below (fun b hb => .inl (.inl hb)))
        have HRR6 := Lib.hid (HRR5.out.keep hk6.size (fun b hb => hk6.block b (.inr hb)))
        have HL6 := Lib.hid hL
        have c2 := play_cell HP6.out
        have HPI := Lib.hid (lp_pins HL6.out (k := me) (m := 1) (by omega) List.mem_cons_self)
        have HW' := Lib.hid (Sp.pp_step HW.out hqm)
        clear c2' d2 HL5 HP5 hbel5 HRR5 hk6 hL hqQ HQ
        go_wp2_with fail
        refine HPI.out.mono ?_
        rintro e w7 ⟨rfl, hw⟩
        subst w7
        clear HPI c2
        go_wp2_with fail
        obtain ⟨iu, hiu, hz0, hz1, hz2⟩ := info_parts u32_info
        have hRl := HW.out.len
        go_loopw [17, 18] (fun v i wr => ∃ j : Nat, j ≤ R.length ∧ i = .int .i64 j ∧ wr.ownsRow w6.heap.size 26 1 v ((R.take j).filter (fun x => x != q)).length (((R.take j).filter (fun x => x != q)).map u32v) ∧ Below w6.heap.size w6 wr) (fun _ i _ => R.length - (intOf i).toNat)
        case atStart => exact ⟨0, by omega, rfl, World.ownsRow_nil _ _ _ _, Below.refl _ _⟩
        case round =>
          obtain ⟨j, hj, rfl, hrow, hbj⟩ := hrel
          have HO := Lib.hid hrow
          clear hrow
          by_cases hlt2 : j < R.length
          · obtain ⟨b3, o3, u, rfl, hb3, hb3l, hu, hc3⟩ := HRR6.out.at_ hlt2
            have hu' : u = u32v R[j] := by
              have : (R.map u32v)[j]? = some (u32v R[j]) := by rw [List.getElem?_map, List.getElem?_eq_getElem hlt2]; rfl
              rw [hu] at this; injection this
            have hcj := (hbj.cell (p := ⟨b3, o3 + j, none⟩) hb3l).trans hc3
            rw [hu'] at hcj
            have hts := List.take_succ_eq_append_getElem hlt2
            have hfl : ((R.take j).filter (fun x => x != q)).length ≤ j := Nat.le_trans (List.length_filter_le _ _) (List.length_take_le _ _)
            obtain ⟨y, hy⟩ : ∃ y, y = R[j] := ⟨_, rfl⟩
            rw [← hy] at hcj hts
            have HTS := Lib.hid hts
            clear hu hu' hc3 hts hy hb3
            by_cases hne : y = q
            · subst hne
              have e0 : (R.take (j + 1)).filter (fun x => x != y) = (R.take j).filter (fun x => x != y) := by rw [HTS.out, List.filter_append, List.filter_cons_of_neg (by simp)]; simp
              have E0 := Lib.hid e0
              clear e0
              go_wp2_with fail
              go_roundw
              case rel => exact ⟨j + 1, hlt2, by go_num, by rw [E0.out]; exact HO.out, hbj⟩
              case measure => simp [intOf]; omega
            · have hd : decide ((y : Int) = (q : Int)) = false := by rw [decide_eq_false_iff_not]; omega
              have hd2 : ¬ (y : Int) = (q : Int) := by omega
              have e0 : (R.take (j + 1)).filter (fun x => x != q) = (R.take j).filter (fun x => x != q) ++ [y] := by rw [HTS.out, List.filter_append, List.filter_cons_of_pos (by simpa using hne)]; rfl
              have E0 := Lib.hid e0
              clear e0
              go_wp2_with (at_builtin; refine wpList_app1 rfl _ _ 40 rfl w6.heap.size 26 iu _ 4 Tryz.underlying40 hiu hz0 hz1 hz2 rfl _ _ _ rfl HO.out (u32v y) rfl rfl (by unfold maxLen; omega) (by omega) hbj.size ?_)
              intro v' w8 hr8 hg8 _
              have hb8 := hbj.grown hg8 hbj.size (fun k e => row_base HO.out e)
              have HR8 := Lib.hid hr8
              clear hr8 hg8
              go_wp2_with fail
              go_roundw
              case rel => exact ⟨j + 1, hlt2, by go_num, by rw [E0.out, List.length_append, List.map_append]; exact HR8.out, hb8⟩
              case measure => simp [intOf]; omega
          · obtain rfl : j = R.length := by omega
            have hO := HO.out
            rw [List.take_length] at hO
            have HO' := Lib.hid hO
            clear HO hO
            have hls : (R.filter (fun x => x != q)).length ≤ R.length := List.length_filter_le _ _
            go_wp2_with (at_builtin; refine wpList_app1 rfl _ _ 40 rfl w6.heap.size 26 iu _ 4 Tryz.underlying40 hiu hz0 hz1 hz2 rfl _ _ _ rfl HO'.out (u32v q) rfl rfl (by unfold maxLen; omega) (by omega) hbj.size ?_)
            intro v' w8 hr8 hg8 _
            have hb8 := hbj.grown hg8 hbj.size (fun k e => row_base HO'.out e)
            have HR8 : Hid (w8.ownsRow w6.heap.size 26 1 v' ((R.filter (fun x => x != q)).length + 1) (List.map u32v (R.filter (fun x => x != q) ++ [q]))) := by rw [List.map_append]; exact hr8
            clear hr8 hg8 HO' hbj
            obtain ⟨g, cap8, rfl⟩ : ∃ g cap8, v' = .slice (some ⟨g, 0, none⟩) ((R.filter (fun x => x != q)).length + 1) cap8 := by
              rcases HR8.out.2 with ⟨_, h0⟩ | ⟨g, cap, cur, rfl, _, _, _⟩
              · omega
              · exact ⟨g, cap, rfl⟩
            have hlen8 : (R.filter (fun x => x != q)).length + 1 ≤ cap8 ∧ w6.heap.size ≤ g ∧ g < w8.heap.size := by
              refine ⟨?_, (HR8.out.lt g rfl).1, (HR8.out.lt g rfl).2⟩
              rcases HR8.out.2 with ⟨_, h0⟩ | ⟨g', cap, cur, e, _, _, h1, _⟩
              · omega
              · injection e with _ _ e; omega
            obtain ⟨hcap, hg1, hg2⟩ := hlen8
            have hcells := HR8.out.cells (g := g) rfl
            have HCE := Lib.hid hcells
            clear hcells
            go_upto_if 129 with fail
            go_cut [12] from 51 to 168 (fun v wx => ∃ A c rb, v = .slice A (Sp.ppStep n R q).length c ∧ Reads (only rb) wx 1 A (Sp.ppStep n R q).length ((Sp.ppStep n R q).map u32v) ∧ w6.heap.size ≤ rb ∧ rb < w8.heap.size ∧ wx = w8)
            case first =>
              by_cases hgt : n - 1 < (R.filter (fun x => x != q)).length + 1
              · have hd3 : decide ((n : Int) - 1 < ((R.filter (fun x => x != q)).length : Int) + 1) = true := by rw [decide_eq_true_eq]; omega
                have hd4 : (n : Int) - 1 < ((R.filter (fun x => x != q)).length : Int) + 1 := by omega
                have hc1 : ¬ cap8 = 1 := by omega
                have hl1 : 1 ≤ (R.filter (fun x => x != q)).length := by omega
                go_wp2_with fail
                go_meet
                have e1 : Sp.ppStep n R q = (R.filter (fun x => x != q) ++ [q]).drop 1 := by
                  unfold Sp.ppStep
                  simp only [List.length_append, List.length_singleton]
                  rw [if_pos hgt]
                have e2 : (Sp.ppStep n R q).length = (R.filter (fun x => x != q)).length := by rw [e1]; simp
                rw [e2]
                refine ⟨_, _, g, rfl, ⟨by rw [List.length_map, e2, Nat.mul_one], fun _ => ⟨g, 1, rfl, rfl, hg2, fun j u hu => ?_⟩⟩, hg1, hg2, rfl⟩
                rw [e1, List.getElem?_map, List.getElem?_drop, ← List.getElem?_map] at hu
                have := HCE.out (1 + j) u hu
                rw [add0] at this
                exact this
              · have hd3 : decide ((n : Int) - 1 < ((R.filter (fun x => x != q)).length : Int) + 1) = false := by rw [decide_eq_false_iff_not]; omega
                have hd4 : ¬ (n : Int) - 1 < ((R.filter (fun x => x != q)).length : Int) + 1 := by omega
                go_wp2_with fail
                go_meet
                have e1 : Sp.ppStep n R q = R.filter (fun x => x != q) ++ [q] := by
                  unfold Sp.ppStep
                  simp only [List.length_append, List.length_singleton]
                  rw [if_neg hgt]
                have e2 : (Sp.ppStep n R q).length = (R.filter (fun x => x != q)).length + 1 := by rw [e1]; simp
                rw [e2]
                refine ⟨_, _, g, rfl, ⟨by rw [List.length_map, e2, Nat.mul_one], fun _ => ⟨g, 0, rfl, rfl, hg2, fun j u hu => ?_⟩⟩, hg1, hg2, rfl⟩
                rw [e1] at hu
                have := HCE.out j u hu
                rw [add0] at this
                rw [Nat.zero_add]
                exact this
            case rest =>
              obtain ⟨A9, c9, rb9, rfl, hRR9, hrb1, hrb2, rfl⟩ := hcut
              have hL9 : LpAt (fun b => (b < w.heap.size ∨ b = gP) ∨ b = rb9) wc gd gl gp n (Sp.ppL me (Sp.ppStep n R q)) := HL6.out.more hb8 (fun b hb => hb.elim (fun h => .inl (.inl h)) (fun h => .inr ⟨by omega, by omega⟩))
              have HP9 := Lib.hid (HP6.out.below hb8 HP6.out.lt)
              have hbel9 := hbel6.trans (hb8.mono hbel6.size)
              have HRR9 := Lib.hid hRR9
              have HL9 := Lib.hid hL9
              have c2 := play_cell HP9.out
              have HPA := Lib.hid (lp_pages HL9.out (by omega))
              clear HL6 HP6 hbel6 HRR6 hRR9 hL9 hrb1 hrb2 hb8 HCE HR8 hcap hg1 hg2 HL9 hRl hls HW
              generalize Sp.ppStep n R q = R9 at *
              go_wp2_with fail
              refine HPA.out.mono ?_
              rintro e w9 ⟨v9, rfl, hrow, hb9, hL9⟩
              obtain ⟨g9, cap9, S, rfl, hSl, hSm, hSc, hg9⟩ : ∃ (g cap : Nat) (S : List Nat), v9 = .slice (some ⟨g, 0, none⟩) (R9.length + 1) cap ∧ S.length = R9.length + 1 ∧ (∀ x ∈ R9, x ∈ S) ∧ (∀ j y, S[j]? = some y → w9.cell? ⟨g, j, none⟩ = some (.int .u32 (y : Nat))) ∧ g < w9.heap.size := by
                have hl : (Sp.ppL me R9).length = R9.length + 1 := by simp [Sp.ppL]
                rw [hl] at hrow
                rcases hrow.2 with ⟨_, h0⟩ | ⟨g, cap, cur, rfl, _, _, _⟩
                · omega
                · have hc := hrow.cells (g := g) rfl
                  have hpm := (Sp.sorted_spec (List.map (·.1) (Sp.ppL me R9))).1
                  refine ⟨g, cap, _, rfl, by rw [hpm.length_eq, List.length_map, hl], fun x hx => hpm.mem_iff.2 ?_, fun j y hj => ?_, (hrow.lt g rfl).2⟩
                  · exact List.mem_map.2 ⟨(x, 0), List.mem_cons_of_mem _ (List.mem_map.2 ⟨x, hx, rfl⟩), rfl⟩
                  · have := hc j (u32v y) (by rw [List.getElem?_map, hj]; rfl)
                    rw [add0] at this
                    exact this
              have HP10 := Lib.hid (HP9.out.below hb9 HP9.out.lt)
              have hbel10 := hbel9.trans (hb9.mono hbel9.size)
              have HRR10 := Lib.hid (HRR9.out.below hb9)
              have HL10 := Lib.hid hL9
              have HSL := Lib.hid hSl
              have HSM := Lib.hid hSm
              have HSC := Lib.hid hSc
              have hRl := HW'.out.len
              clear hrow hL9 HRR9 HP9 hbel9 hb9 HPA c2 hSl hSm hSc
              go_wp2_with fail
              go_loopw [20] (fun i wr => ∃ j : Nat, j ≤ R9.length ∧ i = .int .i64 j ∧ Below w9.heap.size w9 wr) (fun i _ => R9.length - (intOf i).toNat)
              case atStart => exact ⟨0, by omega, rfl, Below.refl _ _⟩
              case round =>
                obtain ⟨j, hj, rfl, hbj⟩ := hrel
                by_cases hlt2 : j < R9.length
                · obtain ⟨b3, o3, u, rfl, hb3, hb3l, hu, hc3⟩ := HRR10.out.at_ hlt2
                  have hu' : u = u32v R9[j] := by
                    have : (R9.map u32v)[j]? = some (u32v R9[j]) := by rw [List.getElem?_map, List.getElem?_eq_getElem hlt2]; rfl
                    rw [hu] at this; injection this
                  have hmem : R9[j] ∈ R9 := List.getElem_mem hlt2
                  rw [hu'] at hc3
                  obtain ⟨y, hy⟩ : ∃ y, y = R9[j] := ⟨_, rfl⟩
                  rw [← hy] at hc3 hmem
                  have hmS := HSM.out y hmem
                  clear hu hu' hy hb3 hmem
                  go_wp2_with fail
                  obtain ⟨wo, rfl⟩ : ∃ wo : World, wo = wr := ⟨_, rfl⟩
                  go_loopw [21, 22] (fun v i wr => ∃ p : Nat, p ≤ R9.length + 1 ∧ i = .int .i64 p ∧ v = .bool ((S.take p).any (fun x => x == y)) ∧ Below w9.heap.size w9 wr) (fun _ i _ => R9.length + 1 - (intOf i).toNat)
                  case atStart => exact ⟨0, by omega, rfl, rfl, hbj⟩
                  case round =>
                    obtain ⟨p, hp, rfl, rfl, hbp⟩ := hrel
                    by_cases hlt3 : p < R9.length + 1
                    · have hpS : p < S.length := by rw [HSL.out]; exact hlt3
                      have hcS := HSC.out p S[p] (List.getElem?_eq_getElem hpS)
                      have hts := List.take_succ_eq_append_getElem hpS
                      have hany : (S.take (p + 1)).any (fun x => x == y) = ((S.take p).any (fun x => x == y) || (S[p] == y)) := by rw [hts, List.any_append]; simp
                      obtain ⟨z, hz⟩ : ∃ z, z = S[p] := ⟨_, rfl⟩
                      rw [← hz] at hcS hany
                      have hcS' := (hbp.cell (p := ⟨g9, p, none⟩) hg9).trans hcS
                      have hc3' := (hbp.cell (p := ⟨b3, o3 + j, none⟩) hb3l).trans hc3
                      have HAN := Lib.hid hany
                      clear hz hcS hc3 hts hpS hany
                      cases hb : (S.take p).any (fun x => x == y) with
                      | true =>
                        rw [hb, Bool.true_or] at HAN
                        clear hb hcS' hc3'
                        go_wp2_with fail
                        go_quiet (fail)
                        go_wp2_with fail
                        go_roundw
                        case rel => exact ⟨p + 1, hlt3, by go_num, by rw [HAN.out], ⟨hbp.os, hbp.tape, hbp.output, hbp.size, hbp.block⟩⟩
                        case measure => simp [intOf]; omega
                      | false =>
                        rw [hb, Bool.false_or] at HAN
                        clear hb
                        by_cases hzy : z = y
                        · subst hzy
                          go_wp2_with fail
                          go_quiet (fail)
                          go_wp2_with fail
                          go_roundw
                          case rel => exact ⟨p + 1, hlt3, by go_num, by rw [HAN.out]; simp, ⟨hbp.os, hbp.tape, hbp.output, hbp.size, hbp.block⟩⟩
                          case measure => simp [intOf]; omega
                        · have hd : decide ((z : Int) = (y : Int)) = false := by rw [decide_eq_false_iff_not]; omega
                          have hd2 : ¬ (z : Int) = (y : Int) := by omega
                          have hd3 : ((z : Int) == (y : Int)) = false := by simp; omega
                          have HZ := Lib.hid hzy
                          clear hzy
                          go_wp2_with fail
                          go_quiet (fail)
                          go_wp2_with fail
                          go_roundw
                          case rel => exact ⟨p + 1, hlt3, by go_num, by rw [HAN.out, beq_false_of_ne HZ.out], ⟨hbp.os, hbp.tape, hbp.output, hbp.size, hbp.block⟩⟩
                          case measure => simp [intOf]; omega
                    · obtain rfl : p = R9.length + 1 := by omega
                      have hall : (S.take (R9.length + 1)).any (fun x => x == y) = true := by
                        rw [List.take_of_length_le (by rw [HSL.out]; omega), List.any_eq_true]
                        exact ⟨y, hmS, by simp⟩
                      rw [hall]
                      clear hall
                      go_wp2_with fail
                      go_roundw
                      case rel => exact ⟨j + 1, hlt2, by go_num, hbp⟩
                      case measure => simp [intOf]; omega
                · obtain rfl : j = R9.length := by omega
                  go_wp2_with fail
                  go_roundw
                  case rel =>
                    exact ⟨k + 1, R9, hlt, by go_num, A9, c9, rb9, rfl, HRR10.out.below hbj, HL10.out.below hbj, HP10.out.below hbj HP10.out.lt, HW'.out, hbel10.trans (hbj.mono hbel10.size)⟩
                  case measure => simp [intOf]; omega
    · obtain rfl : k = ls.length := by omega
      obtain ⟨A3, c3, rb, rfl, hRR, hL, hP, hrow, hbel⟩ := hrel
      have HP := Lib.hid hP
      have HL := Lib.hid hL
      have HE := Lib.hid (Sp.pe_first hn2 hrow)
      have hbs := hbel.size
      clear hRR hL hP hrow
      go_wp2_with fail
      go_loopw [23] (fun i wq => ∃ (j : Nat) (L : List (Nat × Nat)), 1 ≤ j ∧ j ≤ 7 ∧ i = .int .u32 j ∧ Sp.PpEnd n me j L ∧ LpAt (fun b => b < w.heap.size ∨ b = gP) wq gd gl gp n L ∧ Blk wq gP 38 #[ptr gd, ptr gl, ptr gp, ptr gr] ∧ Below w.heap.size w wq) (fun i _ => 7 - (intOf i).toNat)
      case atStart => exact ⟨1, _, by omega, by omega, rfl, HE.out, HL.out.more (Below.refl _ _) (fun b hb => .inl (.inl hb)), HP.out, hbel⟩
      case round =>
        obtain ⟨j, L, hj1, hj7, rfl, hE, hL, hP, hbq⟩ := hrel
        clear HE HL HP hbel
        have HE := Lib.hid hE
        have HL := Lib.hid hL
        have HP := Lib.hid hP
        have c2 := play_cell hP
        clear hE hL hP
        by_cases hlt : j < 7
        · have hsm : ∀ x ∈ L, x.2 < 1000000 := fun x hx => by have := HE.out.small x hx; omega
          have hle6 : decide ((j : Int) ≤ 6) = true := by rw [decide_eq_true_eq]; omega
          by_cases hjm : j = me
          · have hd : decide ((j : Int) = (me : Int)) = true := by rw [decide_eq_true_eq]; omega
            have hd2 : (j : Int) = (me : Int) := by omega
            have hE' : Sp.PpEnd n me (me + 1) L := by have := Sp.pe_skip HE.out hjm; rw [hjm] at this; exact this
            have HE' := Lib.hid hE'
            clear HE hjm hsm hE'
            go_wp2_with fail
            go_roundw
            case rel => exact ⟨me + 1, L, by omega, by omega, by go_num, HE'.out, HL.out, HP.out, hbq⟩
            case measure => simp [intOf]; omega
          · have hd : decide ((j : Int) = (me : Int)) = false := by rw [decide_eq_false_iff_not]; omega
            have hd2 : ¬ (j : Int) = (me : Int) := by omega
            have HJM := Lib.hid hjm
            have HPN := Lib.hid (lp_pin HL.out (k := j) hj1 (by omega) hsm)
            clear hjm hsm
            go_wp2_with fail
            refine HPN.out.mono ?_
            rintro e w4 ⟨hk4, hor⟩
            have HP4 := Lib.hid (HP.out.kept hk4 (.inr rfl))
            have hb4 := hbq.trans (hk4.below (fun b hb => .inl hb))
            obtain ⟨L', r1, r2, rfl, hE4, hL4⟩ : ∃ L' r1 r2, e = .returned (.tuple #[r1, r2]) ∧ Sp.PpEnd n me (j + 1) L' ∧ LpAt (fun b => b < w.heap.size ∨ b = gP) w4 gd gl gp n L' := by
              rcases hor with ⟨ha, rfl, hL⟩ | ⟨L', A', c', ha, rfl, _, _, hL⟩
              · exact ⟨L, _, _, rfl, Sp.pe_none HE.out ha, hL⟩
              · exact ⟨L', _, _, rfl, Sp.pe_some HE.out HJM.out ha (lp_len hL).1, hL⟩
            have HE4 := Lib.hid hE4
            have HL4 := Lib.hid hL4
            clear hor hE4 hL4 HPN hk4 HP HL HE c2 hbq
            go_wp2_with fail
            go_roundw
            case rel => exact ⟨j + 1, L', by omega, by omega, by go_num, HE4.out, HL4.out, HP4.out, hb4⟩
            case measure => simp [intOf]; omega
        · obtain rfl : j = 7 := by omega
          have hle6 : decide ((7 : Int) ≤ 6) = false := by decide
          have hLn := Sp.pe_done HE.out hn5
          have HPA := Lib.hid (lp_pages HL.out (by omega))
          have HME := Lib.hid HE.out.me
          rw [hLn] at HPA
          have HLn := Lib.hid hLn
          have hmin : min (n : Int) 6 = n := by omega
          have hmax : max (0 : Int) ((n : Int) - 6) = 0 := by omega
          clear hLn HE
          go_wp2_with fail
          refine HPA.out.mono ?_
          rintro e w9 ⟨v9, rfl, hrow, hb9, hL9⟩
          obtain ⟨g9, cap9, rfl⟩ : ∃ g cap, v9 = .slice (some ⟨g, 0, none⟩) n cap := by
            rcases hrow.2 with ⟨_, h0⟩ | ⟨g, cap, cur, rfl, _, _, _⟩
            · omega
            · exact ⟨g, cap, rfl⟩
          have HP9 := Lib.hid (HP.out.below hb9 HP.out.lt)
          have hb99 := hbq.trans (hb9.mono hbq.size)
          have c2 := play_cell HP9.out
          have HFR := Lib.hid (lp_free hL9)
          have HPI := Lib.hid (lp_pins hL9 (k := me) (m := 1) (by omega) HME.out)
          rw [HLn.out, show ((n : Int) - (n : Nat)) = 0 from Int.sub_self _] at HFR
          have HWK := Lib.hid (law_works w9)
          clear hrow hL9 HPA HP HL hbq hb9
          go_wp2_with fail
          refine HFR.out.mono ?_
          rintro e w10 ⟨rfl, hw⟩
          subst w10
          go_wp2_with fail
          refine HPI.out.mono ?_
          rintro e w10 ⟨rfl, hw⟩
          subst w10
          go_wp2_with fail
          refine HWK.out.mono ?_
          rintro e w10 ⟨rfl, hb10⟩
          have hb11 := Lib.hid (hb99.trans (hb10.mono hb99.size))
          clear hb10 hb99
          go_wp2_with fail
          go_ret
          exact ⟨rfl, hb11.out⟩

set_option maxRecDepth 100000 in
set_option maxHeartbeats 1000000 in
theorem law_pins_big (f s : Nat) (A : Option Addr) (cap n : Nat) (h60 : 60 < n) (hn : n ≤ maxLen) (w : World) :
    Calls Tryz.prog 3 #[u8v f, u8v s, .slice A n cap] w fun e w' => e = .returned (.bool true) ∧ Below w.heap.size w w' := by
  unfold maxLen at hn
  unfold u8v
  have hd : decide (60 < (n : Int)) = true := by rw [decide_eq_true_eq]; omega
  have HWK := Lib.hid (law_works w)
  go_enter Tryz.func3, Tryz.ntmps3
  go_wp2_with fail
  refine HWK.out.mono ?_
  rintro e w1 ⟨rfl, hb⟩
  go_wp2_with fail
  go_ret
  exact ⟨rfl, hb⟩
end Go.Proofs.YtbpjgdbkmnhnmaaGreat
