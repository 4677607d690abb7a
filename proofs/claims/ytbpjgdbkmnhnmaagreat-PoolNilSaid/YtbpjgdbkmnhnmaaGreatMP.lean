/- A pool of the law pentimentolaw15 whose pages stand as they were laid first: its rows as a plain list of (page, how often pinned). -/
import Derived.Test.YtbpjgdbkmnhnmaaGreatMN
import Derived.Test.YtbpjgdbkmnhnmaaGreatMO
import Derived.Test.YtbpjgdbkmnhnmaaGreatMB

namespace Go.Proofs.YtbpjgdbkmnhnmaaGreat
open Go.RowKit

namespace Sp
/-- the plain list. -/
def Pl.abs (p : Pl) : List (Nat × Nat) := p.items.map fun it => (it.page.id, it.pins)
/-- all pages clean, and as they were laid first. -/
def Pl.fresh (p : Pl) : Prop := ∀ it ∈ p.items, it.dirty = false ∧ it.page = first it.page.id ∧ 1 ≤ it.page.id ∧ it.page.id ≤ 6

def aHas (L : List (Nat × Nat)) (k : Nat) : Bool := L.any fun x => x.1 == k
/-- one more pin: it stands last. -/
def aUp (L : List (Nat × Nat)) (k : Nat) : List (Nat × Nat) := L.filter (fun x => x.1 != k) ++ (L.filter (fun x => x.1 == k)).map fun x => (x.1, x.2 + 1)
/-- the first that is not pinned goes. -/
def aDrop : List (Nat × Nat) → Option (List (Nat × Nat))
  | [] => none
  | x :: L => if x.2 = 0 then some L else (aDrop L).map (x :: ·)
/-- Pin: none: there is no room. -/
def aPin (n : Nat) (L : List (Nat × Nat)) (k : Nat) : Option (List (Nat × Nat)) :=
  if aHas L k then some (aUp L k) else if L.length < n then some (L ++ [(k, 1)]) else (aDrop L).map (· ++ [(k, 1)])
def aUnpin (L : List (Nat × Nat)) (k : Nat) : List (Nat × Nat) := L.map fun x => if x.1 = k then (x.1, x.2 - 1) else x

theorem aHas_iff {p : Pl} {k : Nat} : aHas p.abs k = true ↔ (p.find k).isSome := by
  unfold aHas Pl.abs Pl.find
  rw [List.any_map, List.find?_isSome, List.any_eq_true]
  rfl

theorem abs_last {p : Pl} (k : Nat) : ((p.pinUp k).last k).abs = aUp p.abs k := by
  unfold Pl.last Pl.pinUp Pl.upd Pl.abs aUp
  simp only [List.map_append, List.filter_map, List.map_map]
  congr 1
  · have e : ((fun x : It => x.page.id != k) ∘ fun x => if x.page.id = k then { x with pins := x.pins + 1 } else x) = ((fun x : Nat × Nat => x.1 != k) ∘ fun it : It => (it.page.id, it.pins)) := by
      funext x
      simp only [Function.comp]
      split <;> simp_all
    rw [e]
    apply List.map_congr_left
    intro x hx
    have hne : x.page.id ≠ k := by simpa using (List.mem_filter.1 hx).2
    simp [Function.comp, hne]
  · have e : ((fun x : It => x.page.id == k) ∘ fun x => if x.page.id = k then { x with pins := x.pins + 1 } else x) = ((fun x : Nat × Nat => x.1 == k) ∘ fun it : It => (it.page.id, it.pins)) := by
      funext x
      simp only [Function.comp]
      split <;> simp_all
    rw [e]
    apply List.map_congr_left
    intro x hx
    have he : x.page.id = k := by simpa using (List.mem_filter.1 hx).2
    simp [Function.comp, he]
theorem abs_bring {p : Pl} {x : Pg} {i : Nat} {rest : List Nat} (hn : p.find x.id = none) : ((p.bring x i rest).pinUp x.id).abs = p.abs ++ [(x.id, 1)] := by
  have hn' := Pl.find_none.1 hn
  unfold Pl.bring Pl.pinUp Pl.upd Pl.abs
  simp only [List.map_append, List.map_map, List.map_cons, List.map_nil]
  congr 1
  · apply List.map_congr_left
    intro y hy
    simp [Function.comp, hn' y hy]
theorem abs_unpin {p : Pl} (k : Nat) : (p.upd k fun x => { x with pins := x.pins - 1 }).abs = aUnpin p.abs k := by
  unfold Pl.upd Pl.abs aUnpin
  simp only [List.map_map]
  apply List.map_congr_left
  intro x _
  simp only [Function.comp]
  split <;> rfl
theorem aDrop_split : ∀ (pre : List (Nat × Nat)) (x : Nat × Nat) (post : List (Nat × Nat)), (∀ y ∈ pre, 0 < y.2) → x.2 = 0 → aDrop (pre ++ x :: post) = some (pre ++ post)
  | [], x, post, _, h => by simp [aDrop, h]
  | y :: pre, x, post, hp, h => by
    have hy := hp y (List.mem_cons_self)
    have ih := aDrop_split pre x post (fun z hz => hp z (List.mem_cons_of_mem _ hz)) h
    simp only [List.cons_append, aDrop]
    rw [if_neg (by omega), ih]; rfl
theorem aDrop_none : ∀ (L : List (Nat × Nat)), (∀ y ∈ L, 0 < y.2) → aDrop L = none
  | [], _ => rfl
  | y :: L, h => by
    have hy := h y (List.mem_cons_self)
    simp only [aDrop]
    rw [if_neg (by omega), aDrop_none L (fun z hz => h z (List.mem_cons_of_mem _ hz))]; rfl
theorem abs_drop {p : Pl} (h : p.wf) {pre post : List It} {it : It} (e : p.items = pre ++ it :: post) : (p.drop it.page.id it.idx).abs = (pre ++ post).map fun it => (it.page.id, it.pins) := by
  have hn := h.ids
  rw [e, List.map_append, List.map_cons, List.nodup_append] at hn
  obtain ⟨_, h2, h3⟩ := hn
  rw [List.nodup_cons] at h2
  unfold Pl.drop Pl.abs
  simp only [e, List.filter_append]
  rw [List.filter_cons_of_neg (by simp)]
  congr 2
  · rw [List.filter_eq_self]
    intro y hy
    have := h3 _ (List.mem_map.2 ⟨y, hy, rfl⟩) it.page.id (List.mem_cons_self)
    simpa using this
  · rw [List.filter_eq_self]
    intro y hy
    have : y.page.id ≠ it.page.id := fun e => h2.1 (List.mem_map.2 ⟨y, hy, e⟩)
    simpa using this
end Sp
end Go.Proofs.YtbpjgdbkmnhnmaaGreat

/- A pool of the law pentimentolaw15 in memory, and what its calls do to the plain list. -/
namespace Go.Proofs.YtbpjgdbkmnhnmaaGreat
open Go.RowKit

/-- The blocks of K are kept. -/
structure Kept (K : Foot) (w w' : World) : Prop where
  os : w'.os = w.os
  tape : w'.tape = w.tape
  output : w'.output = w.output
  size : w.heap.size ≤ w'.heap.size
  block : ∀ b, K b → w'.heap[b]? = w.heap[b]?
theorem Kept.refl (K : Foot) (w : World) : Kept K w w := ⟨rfl, rfl, rfl, Nat.le_refl _, fun _ _ => rfl⟩
theorem Kept.trans {K : Foot} {w w' w'' : World} (h : Kept K w w') (h' : Kept K w' w'') : Kept K w w'' :=
  ⟨h'.os.trans h.os, h'.tape.trans h.tape, h'.output.trans h.output, Nat.le_trans h.size h'.size, fun b hb => (h'.block b hb).trans (h.block b hb)⟩
theorem Kept.mono {K K' : Foot} {w w' : World} (h : Kept K w w') (hk : ∀ b, K' b → K b) : Kept K' w w' := ⟨h.os, h.tape, h.output, h.size, fun b hb => h.block b (hk b hb)⟩
theorem Kept.below {K : Foot} {w w' : World} (h : Kept K w w') {B : Nat} (hk : ∀ b, b < B → K b) : Below B w w' := ⟨h.os, h.tape, h.output, h.size, fun b hb => h.block b (hk b hb)⟩
theorem Kept.of_below {K : Foot} {w w' : World} {B : Nat} (h : Below B w w') (hk : ∀ b, K b → b < B) : Kept K w w' := ⟨h.os, h.tape, h.output, h.size, fun b hb => h.block b (hk b hb)⟩
theorem Kept.of_turns {K F F' : Foot} {w w' : World} (h : Turns F F' w w') (hk : ∀ b, K b → b < w.heap.size ∧ ¬ F b) : Kept K w w' := ⟨h.os, h.tape, h.output, h.size, fun b hb => h.block b (hk b hb).1 (hk b hb).2⟩
theorem Blk.kept {K : Foot} {w w' : World} {g : Nat} {t : TypeId} {cs : Array Value} (h : Blk w g t cs) (hk : Kept K w w') (hg : K g) : Blk w' g t cs := (hk.block g hg).trans h

/-- A pool (block gp), its disk (block gd); the blocks of K are none of theirs. -/
def LpAt (K : Foot) (w : World) (gd gl gp n : Nat) (L : List (Nat × Nat)) : Prop :=
  ∃ (p : Sp.Pl) (D F : Foot) (dk : Sp.Dk), IsDk D w gd dk ∧ LawDk dk 7 ∧ IsPl F w gp gd gl 8 44 p ∧ p.n = n ∧ p.fresh ∧ p.abs = L ∧ (∀ b, D b → ¬ F b) ∧ (∀ b, D b ∨ F b → ¬ K b) ∧ (∀ b, K b → b < w.heap.size)

theorem lp_make {K : Foot} {w w' : World} {gd gl gp n : Nat} {p' : Sp.Pl} {D F F' : Foot} {dk : Sp.Dk} (hd : IsDk D w gd dk) (hlk : LawDk dk 7) (hpl : IsPl F' w' gp gd gl 8 44 p') (hn : p'.n = n) (hfr : p'.fresh) (hDF : ∀ b, D b → ¬ F b) (hK : ∀ b, D b ∨ F b → ¬ K b)
    (hb : ∀ b, K b → b < w.heap.size) (ht : Turns F F' w w') : LpAt K w' gd gl gp n p'.abs := by
  have hin := hd.in_
  refine ⟨p', D, F', dk, hd.keep (fun b hD => ht.block b (hin b hD) (hDF b hD)), hlk, hpl, hn, hfr, rfl, fun b hD hF => ?_, fun b h hk => ?_, fun b h => Nat.lt_of_lt_of_le (hb b h) ht.size⟩
  · rcases ht.foot b hF with h | h
    · exact hDF b hD h
    · have := hin b hD; omega
  · rcases h with h | h
    · exact hK b (.inl h) hk
    · rcases ht.foot b h with h | h
      · exact hK b (.inr h) hk
      · have := hb b hk; omega

theorem lp_len {K : Foot} {w : World} {gd gl gp n : Nat} {L : List (Nat × Nat)} (h : LpAt K w gd gl gp n L) : L.length ≤ n ∧ (L.map (·.1)).Nodup ∧ ∀ x ∈ L, 1 ≤ x.1 ∧ x.1 ≤ 6 := by
  obtain ⟨p, D, F, dk, hd, hlk, hpl, rfl, hfr, rfl, hDF, hb0⟩ := h
  have hl := hpl.wf.len
  have hids := hpl.wf.ids
  refine ⟨by simp [Sp.Pl.abs]; omega, ?_, fun x hx => ?_⟩
  · have e1 : p.abs.map (·.1) = p.items.map (·.page.id) := by simp [Sp.Pl.abs, Function.comp]
    rw [e1]; exact hids
  · obtain ⟨it, hit, rfl⟩ := List.mem_map.1 hx
    exact ⟨(hfr it hit).2.2.1, (hfr it hit).2.2.2⟩

/-- The blocks made meanwhile are none of theirs. -/
theorem LpAt.more {K K' : Foot} {w w' : World} {gd gl gp n : Nat} {L : List (Nat × Nat)} (h : LpAt K w gd gl gp n L) (hb : Below w.heap.size w w') (hK : ∀ b, K' b → K b ∨ (w.heap.size ≤ b ∧ b < w'.heap.size)) : LpAt K' w' gd gl gp n L := by
  obtain ⟨p, D, F, dk, hd, hlk, hpl, hn, hfr, hL, hDF, hb0, hKl⟩ := h
  have hin := hd.in_
  have hlt := hpl.lt
  refine ⟨p, D, F, dk, hd.below hb, hlk, hpl.below hb, hn, hfr, hL, hDF, fun b h hk => ?_, fun b hk => ?_⟩
  · rcases hK b hk with h' | h'
    · exact hb0 b h h'
    · rcases h with h | h
      · have := hin b h; omega
      · have := hlt b h; omega
  · rcases hK b hk with h' | h'
    · exact Nat.lt_of_lt_of_le (hKl b h') hb.size
    · exact h'.2
theorem LpAt.below {K : Foot} {w w' : World} {gd gl gp n : Nat} {L : List (Nat × Nat)} (h : LpAt K w gd gl gp n L) (hb : Below w.heap.size w w') : LpAt K w' gd gl gp n L := h.more hb (fun _ h => .inl h)
theorem LpAt.lt {K : Foot} {w : World} {gd gl gp n : Nat} {L : List (Nat × Nat)} (h : LpAt K w gd gl gp n L) : ∀ b, K b → b < w.heap.size := by
  obtain ⟨p, D, F, dk, _, _, _, _, _, _, _, _, h⟩ := h
  exact h

/-- What Pin answers, and leaves. -/
def PinLp (K : Foot) (w : World) (gd gl gp n : Nat) (L : List (Nat × Nat)) (k : Nat) (e : Ending) (w' : World) : Prop :=
  Kept K w w' ∧ ((Sp.aPin n L k = none ∧ e = .returned (.tuple #[zeroPgV, .int .i64 4]) ∧ LpAt K w' gd gl gp n L) ∨
    ∃ L' A c, Sp.aPin n L k = some L' ∧ e = .returned (.tuple #[pgV (Sp.first k) A c, .int .i64 0]) ∧ OkAddr A ∧ RowsAt (fun b => w.heap.size ≤ b) w' A (Sp.first k).rows ∧ LpAt K w' gd gl gp n L')

theorem lp_pin {K : Foot} {w : World} {gd gl gp n : Nat} {L : List (Nat × Nat)} (h : LpAt K w gd gl gp n L) {k : Nat} (h1 : 1 ≤ k) (h6 : k ≤ 6) (hs : ∀ x ∈ L, x.2 < 1000000) :
    Calls Tryz.prog 9 #[ptr gp, u32v k] w (PinLp K w gd gl gp n L k) := by
  obtain ⟨p, D, F, dk, hd, hlk, hpl, rfl, hfr, rfl, hDF, hb0, hKl⟩ := h
  have hwf := hpl.wf
  cases hf : p.find k with
  | some it =>
    obtain ⟨hit, hk⟩ := Sp.Pl.find_mem hf
    have hpg : it.page = Sp.first k := by rw [← hk]; exact (hfr it hit).2.1
    have hsm := hs (it.page.id, it.pins) (List.mem_map.2 ⟨it, hit, rfl⟩)
    have hsm : it.pins < 1000000 := hsm
    refine (pool_pin_in' hpl (by omega) hf (by omega)).mono ?_
    rintro e w' ⟨F', A, c, rfl, hA, hR, h', ht⟩
    rw [hpg] at hR ⊢
    have hfr' : ((p.pinUp k).last k).fresh := fun y hy => by
      have hy' := (Sp.Pl.last_perm (p.pinUp k) k).mem_iff.1 hy
      obtain ⟨x, hx, rfl⟩ := Sp.Pl.upd_mem hy'
      split <;> exact hfr x hx
    refine ⟨Kept.of_turns ht (fun b hk => ⟨hKl b hk, fun hF => hb0 b (.inr hF) hk⟩), .inr ⟨Sp.aUp p.abs k, A, c, ?_, rfl, hA, hR, ?_⟩⟩
    · unfold Sp.aPin
      rw [if_pos (Sp.aHas_iff.2 (by rw [hf]; rfl))]
    · rw [← Sp.abs_last]
      exact lp_make hd hlk h' rfl hfr' hDF hb0 hKl ht
  | none =>
    have hno : Sp.aHas p.abs k = false := by
      cases ha : Sp.aHas p.abs k with
      | false => rfl
      | true => rw [Sp.aHas_iff, hf] at ha; cases ha
    have hlen : p.abs.length = p.items.length := by simp [Sp.Pl.abs]
    have hwl := hwf.len
    refine (pool_pin_out' (x := Sp.first k) hpl (fun it hit => (hfr it hit).1) (Sp.first_ok h1 (by omega)) hf hd (by rw [hlk.fuse]; decide) hlk.loose (by rw [hlk.len]; show 44 + k * 4 + 4 ≤ 72; omega) (hlk.page k h1 (by omega))).mono ?_
    rintro e w' (⟨rfl, hfree, hall, h', ht⟩ | ⟨F', A, c, p', i, rest, rfl, hA, hR, hfree, hnone, h', ht, hp'⟩)
    · refine ⟨Kept.of_turns ht (fun b hk => ⟨hKl b hk, fun hF => hb0 b (.inr hF) hk⟩), .inl ⟨?_, rfl, lp_make hd hlk h' rfl hfr hDF hb0 hKl ht⟩⟩
      unfold Sp.aPin
      rw [hfree, List.length_nil] at hwl
      rw [hno, if_neg (by simp), if_neg (by omega), Sp.aDrop_none _ (fun y hy => by
        obtain ⟨it, hit, rfl⟩ := List.mem_map.1 hy
        exact hall it hit)]
      rfl
    · have hsub : ∀ y ∈ p'.items, y ∈ p.items := by
        rcases hp' with rfl | ⟨_, pre, it, post, _, _, _, rfl⟩
        · exact fun y hy => hy
        · exact fun y hy => (List.mem_filter.1 hy).1
      have hfr' : ((p'.bring (Sp.first k) i rest).pinUp k).fresh := fun y hy => by
        obtain ⟨x, hx, rfl⟩ := Sp.Pl.upd_mem hy
        have hx' : x.dirty = false ∧ x.page = Sp.first x.page.id ∧ 1 ≤ x.page.id ∧ x.page.id ≤ 6 := by
          rcases List.mem_append.1 hx with hx | hx
          · exact hfr x (hsub x hx)
          · rw [List.mem_singleton.1 hx]
            exact ⟨rfl, rfl, h1, h6⟩
        split <;> exact hx'
      have hpn : p'.n = p.n := by
        rcases hp' with rfl | ⟨_, pre, it, post, _, _, _, rfl⟩ <;> rfl
      have habs : Sp.aPin p.n p.abs k = some (p'.abs ++ [(k, 1)]) := by
        unfold Sp.aPin
        rw [hno, if_neg (by simp)]
        rcases hp' with rfl | ⟨hf0, pre, it, post, hsp, hpre, hp0, rfl⟩
        · rw [hfree, List.length_cons] at hwl
          rw [if_pos (by omega)]
        · rw [hf0, List.length_nil] at hwl
          rw [if_neg (by omega), Sp.abs_drop hwf hsp]
          unfold Sp.Pl.abs
          rw [hsp, List.map_append, List.map_cons, Sp.aDrop_split _ _ _ (fun y hy => by
            obtain ⟨z, hz, rfl⟩ := List.mem_map.1 hy
            exact hpre z hz) hp0, List.map_append]
          rfl
      refine ⟨Kept.of_turns ht (fun b hk => ⟨hKl b hk, fun hF => hb0 b (.inr hF) hk⟩), .inr ⟨_, A, c, habs, rfl, hA, hR, ?_⟩⟩
      have ha := Sp.abs_bring (x := Sp.first k) (i := i) (rest := rest) hnone
      have ha' : ((p'.bring (Sp.first k) i rest).pinUp k).abs = p'.abs ++ [(k, 1)] := ha
      rw [← ha']
      exact lp_make hd hlk h' hpn hfr' hDF hb0 hKl ht

theorem lp_unpin {K : Foot} {w : World} {gd gl gp n : Nat} {L : List (Nat × Nat)} (h : LpAt K w gd gl gp n L) {k m : Nat} (hk : k < 4294967296) (hm : (k, m) ∈ L) (h0 : 1 ≤ m) :
    Calls Tryz.prog 10 #[ptr gp, u32v k] w fun e w' => e = .returned (.int .i64 0) ∧ Kept K w w' ∧ LpAt K w' gd gl gp n (Sp.aUnpin L k) := by
  obtain ⟨p, D, F, dk, hd, hlk, hpl, rfl, hfr, rfl, hDF, hb0, hKl⟩ := h
  obtain ⟨it, hit, e⟩ := List.mem_map.1 hm
  injection e with e1 e2
  have hf := Sp.Pl.find_of hpl.wf hit
  rw [e1] at hf
  refine (pool_unpin hpl hk hf (by omega)).mono ?_
  rintro e w' ⟨rfl, h', ht⟩
  refine ⟨rfl, Kept.of_turns ht (fun b hk => ⟨hKl b hk, fun hF => hb0 b (.inr hF) hk⟩), ?_⟩
  rw [← Sp.abs_unpin]
  refine lp_make hd hlk h' rfl (fun y hy => ?_) hDF hb0 hKl ht
  obtain ⟨x, hx, rfl⟩ := Sp.Pl.upd_mem hy
  split <;> exact hfr x hx

theorem lp_pins {K : Foot} {w : World} {gd gl gp n : Nat} {L : List (Nat × Nat)} (h : LpAt K w gd gl gp n L) {k m : Nat} (hk : k < 4294967296) (hm : (k, m) ∈ L) :
    Calls Tryz.prog 11 #[ptr gp, u32v k] w fun e w' => e = .returned (.int .i64 m) ∧ w' = w := by
  obtain ⟨p, D, F, dk, hd, hlk, hpl, rfl, hfr, rfl, hDF, hb0, hKl⟩ := h
  obtain ⟨it, hit, e⟩ := List.mem_map.1 hm
  injection e with e1 e2
  have hf := Sp.Pl.find_of hpl.wf hit
  rw [e1] at hf
  rw [← e2]
  exact pool_pins_in hpl hk hf

theorem lp_free {K : Foot} {w : World} {gd gl gp n : Nat} {L : List (Nat × Nat)} (h : LpAt K w gd gl gp n L) :
    Calls Tryz.prog 13 #[ptr gp] w fun e w' => e = .returned (.int .i64 ((n : Int) - L.length)) ∧ w' = w := by
  obtain ⟨p, D, F, dk, hd, hlk, hpl, rfl, hfr, rfl, hDF, hb0, hKl⟩ := h
  have hl := hpl.wf.len
  have hlen : p.abs.length = p.items.length := by simp [Sp.Pl.abs]
  refine (pool_free hpl).mono ?_
  rintro e w' ⟨rfl, rfl⟩
  have e1 : (p.free.length : Int) = (p.n : Int) - p.abs.length := by omega
  rw [e1]
  exact ⟨rfl, rfl⟩

theorem lp_pages {K : Foot} {w : World} {gd gl gp n : Nat} {L : List (Nat × Nat)} (h : LpAt K w gd gl gp n L) (h12 : n ≤ 12) :
    Calls Tryz.prog 12 #[ptr gp] w fun e w' => ∃ v, e = .returned v ∧ w'.ownsRow w.heap.size 26 1 v L.length ((Sp.sorted (L.map (·.1))).map u32v) ∧ Below w.heap.size w w' ∧ LpAt K w' gd gl gp n L := by
  have h' := h
  obtain ⟨p, D, F, dk, hd, hlk, hpl, rfl, hfr, rfl, hDF, hb0, hKl⟩ := h
  refine (pool_pages hpl h12).mono ?_
  rintro e w' ⟨v, rfl, hrow, hb⟩
  have e1 : p.abs.map (·.1) = p.items.map (·.page.id) := by simp [Sp.Pl.abs, Function.comp]
  have e2 : p.abs.length = p.items.length := by simp [Sp.Pl.abs]
  rw [e1, e2]
  exact ⟨v, rfl, hrow, hb, h'.below hb⟩

/-- A pool that has begun. -/
theorem begun_lp {w w' : World} {n : Nat} {e : Ending} (h : BegunPost w n e w') :
    ∃ gP gr gd gl gp, e = .returned (ptr gP) ∧ Blk w' gP 38 #[ptr gd, ptr gl, ptr gp, ptr gr] ∧ Below w.heap.size w w' ∧ LpAt (fun b => b < w.heap.size ∨ b = gP) w' gd gl gp n [] := by
  obtain ⟨gP, gr, gd, gl, gp, v, xs, D, F, dk, rfl, hP, _, _, _, hd, hlk, hpl, hDF, hb0, hb⟩ := h
  have hs := hb.size
  have hg := hP.lt
  refine ⟨gP, gr, gd, gl, gp, rfl, hP, hb, _, D, F, dk, hd, hlk, hpl, rfl, fun it h => by simp at h, rfl, hDF, fun b h hk => ?_, fun b hk => ?_⟩
  · obtain ⟨h1, h2, _⟩ := hb0 b h
    rcases hk with hk | hk <;> omega
  · rcases hk with hk | hk <;> omega
end Go.Proofs.YtbpjgdbkmnhnmaaGreat

/- The walk of the law package pentimentolaw15: works. -/
namespace Go.Proofs.YtbpjgdbkmnhnmaaGreat
open Go.RowKit Go.Conc

theorem lp_pin_ok {K : Foot} {w : World} {gd gl gp n : Nat} {L L' : List (Nat × Nat)} (h : LpAt K w gd gl gp n L) {k : Nat} (h1 : 1 ≤ k) (h6 : k ≤ 6) (hs : ∀ x ∈ L, x.2 < 1000000) (ha : Sp.aPin n L k = some L') :
    Calls Tryz.prog 9 #[ptr gp, u32v k] w fun e w' => ∃ A c, e = .returned (.tuple #[pgV (Sp.first k) A c, .int .i64 0]) ∧ OkAddr A ∧ RowsAt (fun b => w.heap.size ≤ b) w' A (Sp.first k).rows ∧ LpAt K w' gd gl gp n L' ∧ Kept K w w' := by
  refine (lp_pin h h1 h6 hs).mono ?_
  rintro e w' ⟨hk, (⟨ha', _⟩ | ⟨M, A, c, ha', rfl, hA, hR, hL⟩)⟩
  · rw [ha] at ha'; cases ha'
  · rw [ha] at ha'; injection ha' with e; subst e
    exact ⟨A, c, rfl, hA, hR, hL, hk⟩
theorem lp_pin_full {K : Foot} {w : World} {gd gl gp n : Nat} {L : List (Nat × Nat)} (h : LpAt K w gd gl gp n L) {k : Nat} (h1 : 1 ≤ k) (h6 : k ≤ 6) (hs : ∀ x ∈ L, x.2 < 1000000) (ha : Sp.aPin n L k = none) :
    Calls Tryz.prog 9 #[ptr gp, u32v k] w fun e w' => e = .returned (.tuple #[zeroPgV, .int .i64 4]) ∧ LpAt K w' gd gl gp n L ∧ Kept K w w' := by
  refine (lp_pin h h1 h6 hs).mono ?_
  rintro e w' ⟨hk, (⟨_, he, hL⟩ | ⟨M, A, c, ha', _⟩)⟩
  · exact ⟨he, hL, hk⟩
  · rw [ha] at ha'; cases ha'
/-- The block of the law's Play: its pool. -/
theorem play_cell {w : World} {gP gd gl gp gr : Nat} (h : Blk w gP 38 #[ptr gd, ptr gl, ptr gp, ptr gr]) : w.cell? ⟨gP, 2, none⟩ = some (ptr gp) := h.cell 2

set_option maxRecDepth 100000 in
set_option maxHeartbeats 1000000 in
theorem law_works (w : World) : Calls Tryz.prog 7 #[] w fun e w' => e = .returned (.bool true) ∧ Below w.heap.size w w' := by
  have HB := Lib.hid fun (W : World) => law_begun 2 (by omega) (by omega) W
  go_enter Tryz.func7, Tryz.ntmps7
  go_wp2_with fail
  refine (HB.out w).mono ?_
  rintro e w1 hpost
  obtain ⟨gP, gr, gd, gl, gp, rfl, hP, hb, hL⟩ := begun_lp hpost
  clear hpost HB
  have HL := Lib.hid hL
  have HP := Lib.hid hP
  have c2 := play_cell hP
  clear hL hP
  go_wp2_with fail
  refine (lp_pin_ok HL.out (k := 1) (by omega) (by omega) (by simp) (L' := [(1, 1)]) rfl).mono ?_
  rintro e w2 ⟨A, c, rfl, hA, hR, hL, hk⟩
  have HP2 := Lib.hid (HP.out.kept hk (.inr rfl))
  have hb2 := hb.trans (hk.below (fun b hb => .inl hb))
  have hl2 := Lib.hid hL
  clear c2 hA hR hL hk HL HP hb
  have c2 := play_cell HP2.out
  have hg := HP2.out.lt
  go_wp2_with fail
  refine (lp_pin_ok (hl2.out.below ((Below.refl _ w2).alloc (Nat.le_refl _) _)) (k := 2) (by omega) (by omega) (by simp) (L' := [(1, 1), (2, 1)]) rfl).mono ?_
  rintro e w3 ⟨A', c', rfl, hA, hR, hL, hk⟩
  have hk := (Kept.of_below ((Below.refl w2.heap.size w2).alloc (Nat.le_refl _) (.cells (pgCs (Sp.first 1) A c) 30)) hl2.out.lt).trans hk
  have HP3 := Lib.hid (HP2.out.kept hk (.inr rfl))
  have hb3 := hb2.trans (hk.below (fun b hb => .inl hb))
  have hl3 := Lib.hid hL
  clear c2 hA hR hL hk hl2 HP2 hb2 hg
  have c2 := play_cell HP3.out
  have hg := HP3.out.lt
  go_wp2_with fail
  refine (lp_pin_full (hl3.out.below ((Below.refl _ w3).alloc (Nat.le_refl _) _)) (k := 3) (by omega) (by omega) (by simp) rfl).mono ?_
  rintro e w4 ⟨rfl, hL, hk⟩
  have hk := (Kept.of_below ((Below.refl w3.heap.size w3).alloc (Nat.le_refl _) (.cells (pgCs (Sp.first 2) A' c') 30)) hl3.out.lt).trans hk
  have HP4 := Lib.hid (HP3.out.kept hk (.inr rfl))
  have hb4 := hb3.trans (hk.below (fun b hb => .inl hb))
  have hl4 := Lib.hid hL
  clear c2 hL hk hl3 HP3 hb3 hg
  have c2 := play_cell HP4.out
  have hg := HP4.out.lt
  go_wp2_with fail
  refine (lp_unpin (hl4.out.below ((Below.refl _ w4).alloc (Nat.le_refl _) _)) (k := 1) (m := 1) (by omega) (by simp) (by omega)).mono ?_
  rintro e w5 ⟨rfl, hk, hL⟩
  have hk := (Kept.of_below ((Below.refl w4.heap.size w4).alloc (Nat.le_refl _) (.cells zeroPgV.cells 30)) hl4.out.lt).trans hk
  have HP5 := Lib.hid (HP4.out.kept hk (.inr rfl))
  have hb5 := hb4.trans (hk.below (fun b hb => .inl hb))
  have hl5 := Lib.hid hL
  clear c2 hL hk hl4 HP4 hb4 hg
  have c2 := play_cell HP5.out
  go_wp2_with fail
  refine (lp_pin_ok (L := [(1, 0), (2, 1)]) hl5.out (k := 3) (by omega) (by omega) (by simp) (L' := [(2, 1), (3, 1)]) rfl).mono ?_
  rintro e w6 ⟨A6, c6, rfl, hA, hR, hL, hk⟩
  have HP6 := Lib.hid (HP5.out.kept hk (.inr rfl))
  have hb6 := hb5.trans (hk.below (fun b hb => .inl hb))
  have hl6 := Lib.hid hL
  clear c2 hL hk hl5 HP5 hb5
  have c2 := play_cell HP6.out
  have hg := HP6.out.lt
  go_wp2_with fail
  refine (lp_pages (hl6.out.below ((Below.refl _ w6).alloc (Nat.le_refl _) _)) (by omega)).mono ?_
  rintro e w7 ⟨v, rfl, hrow, hb7, hL⟩
  have es : Sp.sorted (List.map (·.1) [(2, 1), (3, 1)]) = [2, 3] :=
    List.Perm.eq_of_pairwise (le := fun a b => a ≤ b) (fun _ _ _ _ h1 h2 => Nat.le_antisymm h1 h2) (Sp.sorted_spec _).2 (by simp) (Sp.sorted_spec _).1
  rw [es] at hrow
  clear es
  have hb6' := (Below.refl w6.heap.size w6).alloc (Nat.le_refl _) (.cells (pgCs (Sp.first 3) A6 c6) 30)
  have hb67 : Below w6.heap.size w6 w7 := hb6'.trans (hb7.mono hb6'.size)
  have hB6 := (Blk.new w6 30 (pgCs (Sp.first 3) A6 c6)).below hb7 (by simp)
  have d2 := hB6.cell 2
  have hb8 := Lib.hid (hb6.trans (hb67.mono hb6.size))
  obtain ⟨g, cap, rfl, q0, q1⟩ : ∃ g cap, v = .slice (some ⟨g, 0, none⟩) 2 cap ∧ w7.cell? ⟨g, 0, none⟩ = some (.int .u32 2) ∧ w7.cell? ⟨g, 1, none⟩ = some (.int .u32 3) := by
    rcases hrow.2 with ⟨_, h0⟩ | ⟨g, cap, cur, rfl, _, _, _⟩
    · simp at h0
    · have hc := hrow.cells (g := g) rfl
      exact ⟨g, cap, rfl, hc 0 _ rfl, hc 1 _ rfl⟩
  clear hrow hb6' hb67 hb7 hb6 hB6 hL hA hR
  simp only [List.getElem?_toArray, List.getElem?_cons_succ, List.getElem?_cons_zero] at d2
  go_wp2_with fail
  go_ret
  exact ⟨rfl, hb8.out⟩
end Go.Proofs.YtbpjgdbkmnhnmaaGreat

/- append of one element to an owned row. No program is named here. -/
namespace Go.Proofs.YtbpjgdbkmnhnmaaGreat
open Go.RowKit

theorem grownBy_trans' {w w' w'' : World} {row : Option Nat} (h : w.grownBy w' row) (h' : w'.grownBy w'' row) : w.grownBy w'' row :=
  ⟨h'.os.trans h.os, h'.tape.trans h.tape, h'.output.trans h.output, Nat.le_trans h.size h'.size, fun b hb hne => (h'.block b (Nat.lt_of_lt_of_le hb h.size) hne).trans (h.block b hb hne)⟩

theorem wpList_app1 {P : Program} {w : World} {ops : Array Oper} {rest : List Oper} {o : Oper} {a : Act} {Q : Exit → Act → World → Prop} (hgd : o.guard = none) (s x : Operand) (t : TypeId)
    (ho : o.op = .call { callee := .builtin .append, args := #[s, x], argTypes := #[t, t] })
    (base : Nat) (e : TypeId) (i : TypeInfo) (z : Value) (bytes : Nat) (ht : P.underlying t = some (.slice e)) (hi : P.info? e = some i) (hz : i.zero = some z)
    (hsize : i.size = 1) (hby : i.bytes = bytes) (hzs : z.cells.size = 1)
    (v : Value) (n : Nat) (xs : List Value) (hs : a.eval s = v) (hown : w.ownsRow base e 1 v n xs)
    (y : Value) (hx : a.eval x = .slice (some ⟨w.heap.size, 0, none⟩) 1 1) (hy : y.oneCell' = true)
    (h63 : n + 1 ≤ maxLen) (hbytes : (n + 1) * bytes ≤ 140737488355328) (hbase : base ≤ w.heap.size)
    (h : ∀ v' w', w'.ownsRow base e 1 v' (n + 1) (xs ++ [y]) → w.grownBy w' v.ownBlock → (∀ k, v'.ownBlock = some k → v.ownBlock = some k ∨ w.heap.size ≤ k) → wpList P ops Q rest (a.put o.dst v') w') : wpList P ops Q (o :: rest) a (w.alloc (.cells #[y] e)) := by
  refine wpList_append_own2 _ hgd s x t ho base e i z 1 bytes ht hi hz hsize hby hzs (by omega) v n xs hs (hown.alloc _) ⟨w.heap.size, 0, none⟩ 1 1 [y] hx rfl ?_ (fun u hu => by rw [List.mem_singleton.1 hu]; exact hy) h63 hbytes (by simp; omega) fun v' w' h1 h2 h3 => h v' w' h1 (grownBy_trans' (World.grownBy_alloc w _ _) h2) fun k hk => ?_
  · exact blk_news (cs := [y]) (Blk.new w e #[y])
  · rcases h3 k hk with h3 | h3
    · exact .inl h3
    · simp at h3; exact .inr (by omega)
end Go.Proofs.YtbpjgdbkmnhnmaaGreat
