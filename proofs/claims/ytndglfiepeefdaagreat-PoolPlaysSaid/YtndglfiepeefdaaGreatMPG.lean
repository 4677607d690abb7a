/- PoolPlays: Pin, the log, and what is asked; plain laws on what the pool has. No walk. -/
import Derived.Test.YtndglfiepeefdaaGreatMPF
import Derived.Test.YtndglfiepeefdaaGreatMPE

namespace Go.Proofs.YtndglfiepeefdaaGreat
open Go.RowKit Go.Conc

namespace Sp
def zeroP : Pg := ⟨0, 0, 0, 0, 0, []⟩
/-- No page is pinned more often. -/
def R15.le (s : R15) (m : Nat) : Prop := ∀ x ∈ s.L, x.pins ≤ m
theorem up_le {L : List RI} {m m' : Nat} (h : ∀ x ∈ L, x.pins ≤ m) (hm : m ≤ m') {id : Nat} {f : RI → RI} (hf : ∀ x, (f x).pins ≤ x.pins) : ∀ x ∈ upR L id f, x.pins ≤ m' := fun x hx => by
  obtain ⟨y, hy, rfl⟩ := List.mem_map.1 hx
  have := h y hy
  split
  · have := hf y; omega
  · omega
theorem write_le {s : R15} {m : Nat} (h : s.le m) (q : List Nat) : (s.write q).2.le m := fun x hx => by
  obtain ⟨y, hy, _, e⟩ := write_mem hx
  rw [e]; exact h y hy
theorem drop_le {s : R15} {m : Nat} (h : s.le m) (id : Nat) : (s.drop id).2.le m := by
  unfold R15.drop
  dsimp only
  split
  · exact write_le h [id]
  · exact fun x hx => write_le h [id] x (List.mem_filter.1 hx).1
theorem room_le {s : R15} {m : Nat} (h : s.le m) : s.room.2.le m := by
  unfold R15.room
  split
  · exact h
  · split
    · exact drop_le h _
    · exact h
theorem pinR_le {L : List RI} {m id : Nat} (h : ∀ x ∈ L, x.pins ≤ m) : ∀ x ∈ pinR L id, x.pins ≤ m + 1 := fun x hx => by
  rcases List.mem_append.1 hx with hx | hx
  · have := h x (List.mem_filter.1 hx).1; omega
  · obtain ⟨y, hy, rfl⟩ := List.mem_map.1 hx
    have := h y (List.mem_filter.1 hy).1
    show y.pins + 1 ≤ _; omega
theorem pin_le {s : R15} {m : Nat} (h : s.le m) (id : Nat) : (s.pin id).2.2.le (m + 1) := by
  have hw : ∀ t : R15, t.le m → t.le (m + 1) := fun t ht x hx => Nat.le_succ_of_le (ht x hx)
  unfold R15.pin
  split
  · exact pinR_le h
  · split
    · exact hw s h
    · split
      · exact hw s h
      · dsimp only
        split
        · exact hw _ (room_le h)
        · refine pinR_le (fun x hx => ?_)
          rcases List.mem_append.1 hx with hx | hx
          · exact room_le h x hx
          · rw [List.mem_singleton.1 hx]; exact Nat.zero_le _
theorem put_le {s : R15} {m : Nat} (h : s.le m) (x : Pg) (b : Bool) : (s.put x b).2.le m := by
  unfold R15.put
  split
  · exact h
  · split
    · exact h
    · split
      · exact h
      · exact up_le h (Nat.le_refl _) (fun y => by split <;> exact Nat.le_refl _)
theorem unpin_le {s : R15} {m : Nat} (h : s.le m) (id : Nat) : (s.unpin id).2.le m := by
  unfold R15.unpin
  split
  · exact h
  · split
    · exact h
    · exact up_le h (Nat.le_refl _) (fun y => Nat.sub_le _ _)
theorem flush_le {s : R15} {m : Nat} (h : s.le m) (q : List Nat) : (s.flush q).2.le m := by
  unfold R15.flush
  split
  · exact h
  · split
    · exact h
    · split
      · exact h
      · exact write_le h q
theorem evict_le {s : R15} {m : Nat} (h : s.le m) (id : Nat) : (s.evict id).2.le m := by
  unfold R15.evict
  split
  · exact h
  · split
    · exact h
    · exact drop_le h id
theorem fresh_le {s : R15} {m : Nat} (h : s.le m) (x : Pg) (b : Bool) : (s.fresh x b).2.le (m + 1) := by
  have hw : ∀ t : R15, t.le m → t.le (m + 1) := fun t ht x hx => Nat.le_succ_of_le (ht x hx)
  unfold R15.fresh
  split
  · exact hw s h
  · split
    · exact hw s h
    · split
      · exact hw s h
      · dsimp only
        split
        · exact hw _ (room_le h)
        · intro y hy
          rcases List.mem_append.1 hy with hy | hy
          · exact hw _ (room_le h) y hy
          · rw [List.mem_singleton.1 hy]; show 1 ≤ m + 1; omega
theorem write_frames (s : R15) (q : List Nat) : (s.write q).2.frames = s.frames := (write_top s q).2.1
theorem drop_frames (s : R15) (id : Nat) : (s.drop id).2.frames = s.frames := (drop_top s id).2.1
theorem pin_frames (s : R15) (id : Nat) : (s.pin id).2.2.frames = s.frames := by
  unfold R15.pin
  split
  · rfl
  · split
    · rfl
    · split
      · rfl
      · dsimp only
        split
        · exact (room_top s).2.1
        · exact (room_top s).2.1
theorem put_frames (s : R15) (x : Pg) (b : Bool) : (s.put x b).2.frames = s.frames := by
  unfold R15.put
  split
  · rfl
  · split
    · rfl
    · split <;> rfl
theorem unpin_frames (s : R15) (id : Nat) : (s.unpin id).2.frames = s.frames := by
  unfold R15.unpin
  split
  · rfl
  · split <;> rfl
theorem flush_frames (s : R15) (q : List Nat) : (s.flush q).2.frames = s.frames := by
  unfold R15.flush
  split
  · rfl
  · split
    · rfl
    · split
      · rfl
      · exact write_frames s q
theorem evict_frames (s : R15) (id : Nat) : (s.evict id).2.frames = s.frames := by
  unfold R15.evict
  split
  · rfl
  · split
    · rfl
    · exact drop_frames s id
theorem fresh_frames (s : R15) (x : Pg) (b : Bool) : (s.fresh x b).2.frames = s.frames := by
  unfold R15.fresh
  split
  · rfl
  · split
    · rfl
    · split
      · rfl
      · dsimp only
        split
        · exact (room_top s).2.1
        · exact (room_top s).2.1
theorem R15.le.up {s : R15} {m m' : Nat} (h : s.le m) (hm : m ≤ m') : s.le m' := fun x hx => Nat.le_trans (h x hx) hm
end Sp

theorem rep_ok {p : Sp.Pl} {dk : Sp.Dk} {l : Sp.Lg} {s : Sp.R15} (h : Rep ly15 p dk l s) {m : Nat} (hp : s.le m) (hm : m < 1000000000) : s.Ok := by
  have hlen := h.wf.len
  refine ⟨fun x hx => ?_, fun x hx => ?_, fun x hx => ?_, ?_, ?_, ?_, ?_, fun q h1 h2 => ?_⟩
  · rw [h.L] at hx
    obtain ⟨it, hit, rfl⟩ := List.mem_map.1 hx
    rw [h.top]
    exact h.in_ it hit
  · rw [h.L] at hx
    obtain ⟨it, hit, rfl⟩ := List.mem_map.1 hx
    exact (h.wf.pg it hit).1.2.2.2.1
  · have := hp x hx; omega
  · rw [h.top]; show 6 < _; omega
  · rw [h.L, List.map_map]; exact h.wf.ids
  · rw [h.L, List.length_map, h.frames]; omega
  · rw [h.frames]; exact h.wf.n64
  · rw [h.top] at h2
    have := h.ok q h1 h2
    exact ⟨this.2.2, this.1.2.2.2.1⟩

section
variable {B gP gd gl gp gr : Nat} {O G : Foot} {l l' : Sp.Lg} {sp sp' sr sr' : Sp.R15} {w w' : World}
theorem PyS.ok (h : PyS B gP gd gl gp gr O G l sp sr w) {m : Nat} (hp : sp.le m) (hm : m < 1000000000) : sp.Ok := by
  obtain ⟨p, dk, hr⟩ := h.rep
  exact rep_ok hr hp hm
theorem PyS.nextEq (h : PyS B gP gd gl gp gr O G l sp sr w) : sp.next = l.next ∧ sp.top = 6 := by
  obtain ⟨p, dk, hr⟩ := h.rep
  exact ⟨hr.next, hr.top⟩

theorem PyS.drew (h : PyS B gP gd gl gp gr O G l sp sr w) : PyS B gP gd gl gp gr O G l sp sr w.drew := (h.below (Below.refl w.heap.size w).drew).less (fun _ hb => .inl hb)
theorem PyS.OG (h : PyS B gP gd gl gp gr O G l sp sr w) {b : Nat} (hb : O b) : ¬ G b := by
  obtain ⟨K, vL, vD, hpk, hrf, hK, hO, hgP, hP⟩ := h
  exact (hO b hb).2.1
/-- What an act leaves. -/
def PyEnd (B gP gd gl gp gr : Nat) (O G : Foot) (m : Nat) (l : Sp.Lg) (s : Sp.R15) (w w' : World) : Prop :=
  ∃ (G' : Foot) (l' : Sp.Lg) (s' : Sp.R15), (∀ b, G b → G' b) ∧ PyS B gP gd gl gp gr O G' l' s' s' w' ∧ s'.le (m + 1) ∧ s'.frames = s.frames ∧ l'.n = l.n ∧ l'.reserved = l.reserved ∧ l'.next ≤ l.next + 4110 ∧ Kept (pyK gP O G) w w'

theorem py_pinP (h : PyS B gP gd gl gp gr O G l sp sr w) {id : Nat} (hid : id < 4294967296) (hs : ∀ x ∈ sp.L, x.pins < 1000000) :
    Calls Tryz.prog 11 #[ptr gp, u32v id] w fun e w' => ∃ (x : Sp.Pg) (A : Option Addr) (c : Nat) (O' : Foot), e = .returned (.tuple #[pgV x A c, .int .i64 (sp.pin id).1]) ∧ x = ((sp.pin id).2.1).getD Sp.zeroP ∧ x.rows.length ≤ 484 ∧ (∀ b, O b → O' b) ∧ RowsAt (fun b => O' b ∧ w.heap.size ≤ b) w' A x.rows ∧ PyS B gP gd gl gp gr O' G { l with forced := (sp.pin id).2.2.forced } (sp.pin id).2.2 sr w' ∧ Kept (pyK gP O G) w w' := by
  obtain ⟨K, vL, vD, hpk, hrf, hK, hO, hgP, hP⟩ := h
  have hlt := hpk.lt
  refine (pk_pin hpk hid hs).mono ?_
  rintro e w' ⟨hk, hh⟩
  rcases hh with ⟨h0, _, rfl, hp⟩ | ⟨x, A, cc, h0, h1, hwf, hmay, rfl, hA, hR, hp⟩
  · obtain ⟨q1, q2⟩ := PyS.pool hrf hK hO hgP hP hk hp (fun b hb => hb)
    exact ⟨Sp.zeroP, none, 0, O, rfl, by rw [h0]; rfl, by simp [Sp.zeroP], fun b hb => hb, Reads.none_, q1, q2⟩
  · obtain ⟨q1, q2⟩ := PyS.pool hrf hK hO hgP hP hk (hp.mono (K' := K) (fun b hb => .inl hb)) (fun b hb => hb)
    refine ⟨x, A, cc, fun b => O b ∨ (w.heap.size ≤ b ∧ rowK A x.rows.length b), by rw [h1]; rfl, by rw [h0]; rfl, ?_, fun b hb => .inl hb, hR.mono (fun b hb => ⟨.inr hb, hb.1⟩), ?_, q2⟩
    · have := hmay.2.2.2.2; omega
    · refine ⟨fun b => K b ∨ rowK A x.rows.length b, vL, vD, hp, hrf.keep hk.size (fun b hb => hk.block b (hK b ?_)), fun b hb => ?_, fun b hb => ?_, hgP, hP.keep (hk.block gP (hK gP (.inr (.inr (.inr rfl)))))⟩
      · rcases hb with e | e
        · exact .inr (.inr (.inl e))
        · exact .inr (.inl e)
      · rcases hb with (e | e) | e
        · exact .inl (hK b (.inl e))
        · exact .inr e.2
        · exact .inl (hK b (.inr e))
      · rcases hb with e | e
        · exact hO b e
        · exact ⟨fun e2 => by have := hlt b (hK b (.inr (.inr (.inl e2)))); omega, fun e2 => by have := hlt b (hK b (.inr (.inl e2))); omega, fun e2 => by have := hP.lt; omega⟩
theorem py_pinR (h : PyS B gP gd gl gp gr O G l sp sr w) (ho : sr.Ok) {id : Nat} (hid : id < 4294967296) :
    Calls Tryz.prog 33 #[ptr gr, u32v id] w fun e w' => ∃ (x : Sp.Pg) (A : Option Addr) (c : Nat), e = .returned (.tuple #[pgV x A c, .int .i64 (sr.pin id).1]) ∧ x = ((sr.pin id).2.1).getD Sp.zeroP ∧ RowsAt G w' A x.rows ∧ PyS B gP gd gl gp gr O G l sp (sr.pin id).2.2 w' ∧ Kept (pyK gP O G) w w' := by
  obtain ⟨K, vL, vD, hpk, hrf, hK, hO, hgP, hP⟩ := h
  refine (ref_pin hrf ho hid).mono ?_
  rintro e w' ⟨⟨vL', hr, ht⟩, hh⟩
  obtain ⟨q1, q2⟩ := PyS.ref hrf hpk hK hO hgP hP hr ht
  rcases hh with ⟨h0, _, rfl⟩ | ⟨x, A, cc, h0, h1, rfl, hA, hR⟩
  · exact ⟨Sp.zeroP, none, 0, rfl, by rw [h0]; rfl, Reads.none_, q1, q2⟩
  · exact ⟨x, A, cc, by rw [h1]; rfl, by rw [h0]; rfl, hR, q1, q2⟩

theorem py_append (h : PyS B gP gd gl gp gr O G l sp sr w) (hn : l.next < 1000000000000) (hr0 : l.reserved < 1000000000) (t : Sp.Bs) (ht : t.length < 1000000000) :
    Calls Tryz.prog 12 #[ptr gl, str t] w fun e w' => ∃ (v : Value) (l' : Sp.Lg), e = .returned v ∧ PyS B gP gd gl gp gr O G l' { sp with next := l'.next } sr w' ∧ Kept (pyK gP O G) w w' ∧ l'.n = l.n ∧ l'.reserved = l.reserved ∧ l'.next ≤ l.next + 4110 := by
  have hnx := h.nextEq.1
  obtain ⟨K, vL, vD, hpk, hrf, hK, hO, hgP, hP⟩ := h
  have hsame : ({ sp with next := l.next } : Sp.R15) = sp := by rw [← hnx]
  refine (pk_append hpk hn hr0 t ht).mono ?_
  rintro e w' ⟨hk, hh⟩
  rcases hh with ⟨_, h4, _, rfl, hp⟩ | ⟨_, _, _, rfl, hp⟩ | ⟨_, rfl, hp⟩
  · obtain ⟨q1, q2⟩ := PyS.pool hrf hK hO hgP hP hk hp (fun b hb => hb)
    exact ⟨_, _, rfl, q1, q2, rfl, rfl, by show l.next + (14 + t.length) ≤ _; omega⟩
  · obtain ⟨q1, q2⟩ := PyS.pool hrf hK hO hgP hP hk hp (fun b hb => hb)
    exact ⟨_, l, rfl, by rw [hsame]; exact q1, q2, rfl, rfl, by omega⟩
  · obtain ⟨q1, q2⟩ := PyS.pool hrf hK hO hgP hP hk hp (fun b hb => hb)
    exact ⟨_, l, rfl, by rw [hsame]; exact q1, q2, rfl, rfl, by omega⟩
theorem py_next (h : PyS B gP gd gl gp gr O G l sp sr w) : Calls Tryz.prog 13 #[ptr gl] w fun e w' => e = .returned (.int .u64 l.next) ∧ w' = w := by
  obtain ⟨K, vL, vD, hpk, _⟩ := h
  exact pk_next hpk
theorem py_forced (h : PyS B gP gd gl gp gr O G l sp sr w) : Calls Tryz.prog 47 #[ptr gl] w fun e w' => e = .returned (.int .u64 sp.forced) ∧ w' = w := by
  obtain ⟨K, vL, vD, hpk, _⟩ := h
  exact pk_forced hpk
/-- The document's cells. -/
theorem PyS.cells (h : PyS B gP gd gl gp gr O G l sp sr w) : ∃ vL vD, Blk w gr 80 #[.int .i64 sr.frames, vL, vD, .int .u64 sr.forced, .int .u64 sr.next] := by
  obtain ⟨K, vL, vD, hpk, hrf, _⟩ := h
  exact ⟨vL, vD, hrf.blk⟩
theorem PyS.setNext (h : PyS B gP gd gl gp gr O G l sp sr w) (N : Nat) : PyS B gP gd gl gp gr O G l sp { sr with next := N } (w.setCell ⟨gr, 4, none⟩ (.int .u64 N)) ∧ Kept (pyK gP O G) w (w.setCell ⟨gr, 4, none⟩ (.int .u64 N)) := by
  obtain ⟨K, vL, vD, hpk, hrf, hK, hO, hgP, hP⟩ := h
  exact PyS.ref hrf hpk hK hO hgP hP (hrf.setNext N) ((Turns.refl (rfO gr vL vD) w).setCell (p := ⟨gr, 4, none⟩) (.inl (.inl rfl)) _)
end
end Go.Proofs.YtndglfiepeefdaaGreat

/- PoolPlays: a page with rows of its own (copied). -/
namespace Go.Proofs.YtndglfiepeefdaaGreat
open Go.RowKit Go.Conc

theorem str_info9 : (Tryz.prog.info? 9).map (fun i => (i.zero, i.size, i.bytes)) = some (some (.string .empty), 1, 16) := by kernel_rfl
/-- A page's rows as an argument has them. -/
def NilOk (A : Option Addr) (c : Nat) (n : Nat) : Prop := (∃ ad, A = some ad) ∨ (A = none ∧ c = 0 ∧ n = 0)

set_option maxRecDepth 100000 in
set_option maxHeartbeats 4000000 in
theorem law15_copied {w : World} {G : Foot} {x : Sp.Pg} {A : Option Addr} {c : Nat} (hN : NilOk A c x.rows.length) (hR : RowsAt G w A x.rows) (hn : x.rows.length ≤ 1000000) :
    Calls Tryz.prog 36 #[pgV x A c] w fun e w' => ∃ A' c', e = .returned (pgV x A' c') ∧ OkAddr A' ∧ RowsAt (fun b => w.heap.size ≤ b) w' A' x.rows ∧ Below w.heap.size w w' := by
  have hb1 := (Below.refl w.heap.size w).alloc (Nat.le_refl _) (.cells (pgCs x A c) 32)
  have hb2 := hb1.alloc hb1.size (.cells #[.int .u8 0, .int .u8 0, .int .u32 0, .int .u64 0, .int .u32 0, .slice none 0 0] 32)
  have hB1 := (Blk.new w 32 (pgCs x A c)).alloc (.cells #[.int .u8 0, .int .u8 0, .int .u32 0, .int .u64 0, .int .u32 0, .slice none 0 0] 32)
  have hB2 := Blk.new (w.alloc (.cells (pgCs x A c) 32)) 32 #[.int .u8 0, .int .u8 0, .int .u32 0, .int .u64 0, .int .u32 0, .slice none 0 0]
  have HR := Lib.hid (Reads.below hR hb2)
  have hsz : (w.alloc (.cells (pgCs x A c) 32)).heap.size = w.heap.size + 1 := by simp
  rw [hsz] at hB2
  obtain ⟨is, his, hs0, hs1, hs2⟩ := info_parts str_info9
  clear hR hsz hb1
  go_enter Tryz.func36, Tryz.ntmps36
  go_upto_region 1 with fail
  change Code.wp _ _ _ _ ((w.alloc (.cells (pgCs x A c) 32)).alloc (.cells #[.int .u8 0, .int .u8 0, .int .u32 0, .int .u64 0, .int .u32 0, .slice none 0 0] 32))
  generalize hw1 : World.alloc (World.alloc w _) _ = w1 at hb2 hB1 hB2 HR ⊢
  obtain ⟨g1, hg1⟩ : ∃ g, g = w.heap.size := ⟨_, rfl⟩
  rw [← hg1] at hB1 hB2 ⊢
  have hg1l : w.heap.size ≤ g1 := by omega
  clear hw1 hg1
  have a5 := hB1.cell 5
  have f5 := hB1.frozen 5
  simp only [zGA, zGB, zGC] at a5
  have HB := Lib.hid hb2
  have HB1 := Lib.hid hB1
  have HB2 := Lib.hid hB2
  have hne : g1 ≠ g1 + 1 := by omega
  have hgl := hB2.lt
  have hws := hb2.size
  clear hb2 hB1 hB2
  have HFIN : Hid (∀ (A' : Option Addr) (n' c' : Nat) (w2 : World), w2.ownsRow w1.heap.size 9 1 (.slice A' n' c') x.rows.length (rcs x.rows) → Below w1.heap.size w1 w2 → n' = x.rows.length ∧ OkAddr A' ∧ RowsAt (fun b => w1.heap.size ≤ b) w2 A' x.rows) := by
    intro A' n' c' w2 h1 h2
    refine ⟨?_, ?_, own_readsB h1⟩
    · rcases h1.2 with ⟨h0, h3⟩ | ⟨g, cap, cur, h0, _⟩
      · injection h0 with _ h4 _; omega
      · injection h0
    · rcases h1.2 with ⟨h0, h3⟩ | ⟨g, cap, cur, h0, _⟩
      · injection h0 with h4 _ _; exact .inl h4
      · injection h0 with h4 _ _; exact .inr ⟨g, 0, h4⟩
  rcases hN with ⟨ad, rfl⟩ | ⟨rfl, rfl, h0⟩
  · go_wp2_with (at_builtin; refine wpList_append_own2 _ rfl _ _ 30 rfl w1.heap.size 9 is _ 1 16 Tryz.underlying30 his hs0 hs1 hs2 rfl (by decide) _ 0 [] rfl (World.ownsRow_nil _ _ _ _) ad x.rows.length c (rcs x.rows) rfl (by simp [rcs]) (fun j u hu => ?cells) (fun u hu => by obtain ⟨z, _, rfl⟩ := List.mem_map.1 hu; rfl) (by unfold maxLen; omega) (by omega) (Nat.le_refl _) ?next)
    case cells =>
      have hj : j < x.rows.length := by
        have := (List.getElem?_eq_some_iff.1 hu).1
        simpa [rcs] using this
      obtain ⟨b, o, e, _, _, hc⟩ := HR.out.2 (by omega)
      injection e with e
      subst e
      rw [addr_addn]
      exact hc j u hu
    case next =>
      intro v2 w2 q1 q2 q3
      replace q2 : w1.grownBy w2 none := q2
      replace q1 : w2.ownsRow w1.heap.size 9 1 v2 x.rows.length (rcs x.rows) := by simpa using q1
      obtain ⟨A', n', c', rfl⟩ := own_slice q1
      have hb12 : Below w1.heap.size w1 w2 := (Below.refl _ _).grown q2 (Nat.le_refl _) (fun k e => nomatch e)
      have hgl1 := HB1.out.lt
      have hB3 := HB1.out.below hb12 hgl1
      have hB4 := HB2.out.below hb12 hgl
      obtain ⟨hn', hok, hRR⟩ := HFIN.out A' n' c' w2 q1 hb12
      subst hn'
      have a0 := hB3.cell 0
      have a1 := hB3.cell 1
      have a2 := hB3.cell 2
      have a3 := hB3.cell 3
      have a4 := hB3.cell 4
      have a5 := hB3.cell 5
      have f5 := hB3.frozen 5
      simp only [zGA, zGB, zGC] at a0 a1 a2 a3 a4 a5
      have HB4 : Hid (Blk (w2.setCell ⟨g1, 5, none⟩ (.slice A' x.rows.length c')) (g1 + 1) 32 #[.int .u8 0, .int .u8 0, .int .u32 0, .int .u64 0, .int .u32 0, .slice none 0 0]) := hB4.far (fun e => hne (by have e : g1 + 1 = g1 := e; omega)) _
      have HRR := Lib.hid hRR
      have HB12 := Lib.hid (HB.out.trans (hb12.mono HB.out.size))
      have HOK := Lib.hid hok
      clear q1 q2 q3 hB3 hB4 hRR hb12 hok
      go_wp2_with (refine wpList_store_part rfl _ _ _ rfl (g1 + 1) 0 #[.int .u8 x.kind, .int .u8 x.level, .int .u32 x.id, .int .u64 x.lsn, .int .u32 x.next, .slice A' x.rows.length c'] rfl rfl _ _ HB4.out pgr_size (by show 0 + 6 ≤ 6; omega) (by simp [Value.oneCell']) ?_)
      have hB5 : Blk ((w2.setCell ⟨g1, 5, none⟩ (.slice A' x.rows.length c')).setRow (g1 + 1) _) (g1 + 1) 32 (pgCs x A' c') := HB4.out.setRow _
      have hb6 := below_setRow (HB12.out.setCell (p := ⟨g1, 5, none⟩) hg1l (.slice A' x.rows.length c')) (g := g1 + 1) (by omega) (pgCs x A' c')
      have hR6 : RowsAt (fun b => w.heap.size ≤ b) ((w2.setCell ⟨g1, 5, none⟩ (.slice A' x.rows.length c')).setRow (g1 + 1) (pgCs x A' c')) A' x.rows := (HRR.out.keep (Nat.le_of_eq (by simp [World.setRow, World.setCell])) (fun b hb => (heap_setRow_other _ _ _ _ (by omega)).trans (Below.heap_setCell _ ⟨g1, 5, none⟩ _ b (by show b ≠ g1; omega)))).mono (fun b hb => Nat.le_trans hws hb)
      exact bodyPost_ret (v := pgV x A' c') (results_cell_row rfl _ _ (g1 + 1) 32 _ (0, 0) _ rfl hB5 Tryz.underlying32 rfl rfl) rfl ⟨A', c', rfl, HOK.out, hR6, hb6⟩
  · have hnil : x.rows = [] := List.eq_nil_of_length_eq_zero h0
    have HNIL := Lib.hid hnil
    rw [h0] at a5
    have hB3 := HB1.out
    have a0 := hB3.cell 0
    have a1 := hB3.cell 1
    have a2 := hB3.cell 2
    have a3 := hB3.cell 3
    have a4 := hB3.cell 4
    simp only [zGA, zGB, zGC] at a0 a1 a2 a3 a4
    have HB4 : Hid (Blk (w1.setCell ⟨g1, 5, none⟩ (.slice none 0 0)) (g1 + 1) 32 #[.int .u8 0, .int .u8 0, .int .u32 0, .int .u64 0, .int .u32 0, .slice none 0 0]) := HB2.out.far (fun e => hne (by have e : g1 + 1 = g1 := e; omega)) _
    have HH0 := Lib.hid h0
    clear hB3 h0 hnil
    go_wp2_with (first | (at_builtin; refine wpList_append_own_none rfl _ _ 30 rfl w1.heap.size 9 is 1 Tryz.underlying30 his _ 0 [] rfl (World.ownsRow_nil _ _ _ _) rfl ?_) | (refine wpList_store_part rfl _ _ _ rfl (g1 + 1) 0 #[.int .u8 x.kind, .int .u8 x.level, .int .u32 x.id, .int .u64 x.lsn, .int .u32 x.next, .slice none 0 0] rfl rfl _ _ HB4.out pgr_size (by show 0 + 6 ≤ 6; omega) (by simp [Value.oneCell']) ?_))
    have epg : pgCs x none 0 = #[.int .u8 x.kind, .int .u8 x.level, .int .u32 x.id, .int .u64 x.lsn, .int .u32 x.next, .slice none 0 0] := by unfold pgCs; rw [HH0.out]
    have hB5 : Blk ((w1.setCell ⟨g1, 5, none⟩ (.slice none 0 0)).setRow (g1 + 1) (pgCs x none 0)) (g1 + 1) 32 (pgCs x none 0) := HB4.out.setRow _
    have hb6 := below_setRow (HB.out.setCell (p := ⟨g1, 5, none⟩) hg1l (.slice none 0 0)) (g := g1 + 1) (by omega) (pgCs x none 0)
    rw [epg] at hb6 hB5
    refine bodyPost_ret (v := pgV x none 0) (by rw [show pgV x none 0 = .agg (pgCs x none 0) from rfl, epg]; exact results_cell_row rfl _ _ (g1 + 1) 32 _ (0, 0) _ rfl hB5 Tryz.underlying32 rfl rfl) rfl ⟨none, 0, rfl, .inl rfl, by rw [HNIL.out]; exact Reads.none_, hb6⟩
end Go.Proofs.YtndglfiepeefdaaGreat

/- PoolPlays: an act; the page that it means. -/
namespace Go.Proofs.YtndglfiepeefdaaGreat
open Go.RowKit Go.Conc

/-- An act. -/
structure PAct where
  do_ : Nat
  page : Nat
  x : Sp.Pg
  own : Bool
  row : Sp.Bs
  pages : List Nat
/-- Its cells. -/
def PAct.cs (a : PAct) (AX : Option Addr) (cX : Nat) (AP : Option Addr) (cP : Nat) : Array Value := #[.int .u8 a.do_, .int .u32 a.page, .int .u8 a.x.kind, .int .u8 a.x.level, .int .u32 a.x.id, .int .u64 a.x.lsn, .int .u32 a.x.next, .slice AX a.x.rows.length cX, .bool a.own, str a.row, .slice AP a.pages.length cP]
/-- The page that it means; n: the log's end. -/
def PAct.pg (a : PAct) (n : Nat) : Sp.Pg := if a.own then ⟨1, 0, a.page, n, 0, [a.row]⟩ else a.x

section
variable {B gP gd gl gp gr : Nat} {O G : Foot} {l : Sp.Lg} {sp sr : Sp.R15} {w : World}
set_option maxRecDepth 100000 in
set_option maxHeartbeats 4000000 in
theorem law15_page (h : PyS B gP gd gl gp gr O G l sp sr w) {a : PAct} {AX AP : Option Addr} {cX cP : Nat} (hN : NilOk AX cX a.x.rows.length) (hR : RowsAt G w AX a.x.rows) :
    Calls Tryz.prog 35 #[ptr gP, .agg (a.cs AX cX AP cP)] w fun e w' => ∃ A c, e = .returned (pgV (a.pg l.next) A c) ∧ NilOk A c (a.pg l.next).rows.length ∧ RowsAt (fun b => G b ∨ w.heap.size ≤ b) w' A (a.pg l.next).rows ∧ Below w.heap.size w w' := by
  obtain ⟨y, hy⟩ : ∃ y, y = a.pg l.next := ⟨_, rfl⟩
  rw [← hy]
  have HYY := Lib.hid hy
  clear hy
  have hb1 := (Below.refl w.heap.size w).alloc (Nat.le_refl _) (.cells (a.cs AX cX AP cP) 35)
  have hb2 := hb1.alloc hb1.size (.cells #[.int .u8 0, .int .u8 0, .int .u32 0, .int .u64 0, .int .u32 0, .slice none 0 0] 32)
  have hB1 := (Blk.new w 35 (a.cs AX cX AP cP)).alloc (.cells #[.int .u8 0, .int .u8 0, .int .u32 0, .int .u64 0, .int .u32 0, .slice none 0 0] 32)
  have hB2 := Blk.new (w.alloc (.cells (a.cs AX cX AP cP) 35)) 32 #[.int .u8 0, .int .u8 0, .int .u32 0, .int .u64 0, .int .u32 0, .slice none 0 0]
  have hsz : (w.alloc (.cells (a.cs AX cX AP cP) 35)).heap.size = w.heap.size + 1 := by simp
  rw [hsz] at hB2
  have hP := (h.play.below hb2 h.play.lt)
  have hS2 := h.below hb2
  clear hsz hb1
  go_enter Tryz.func35, Tryz.ntmps35
  go_upto_region 1 with fail
  change Code.wp _ _ _ _ ((w.alloc (.cells (a.cs AX cX AP cP) 35)).alloc (.cells #[.int .u8 0, .int .u8 0, .int .u32 0, .int .u64 0, .int .u32 0, .slice none 0 0] 32))
  generalize hw2 : World.alloc (World.alloc w _) _ = w2 at hb2 hB1 hB2 hP hS2 ⊢
  obtain ⟨gb, hgb⟩ : ∃ g, g = w.heap.size := ⟨_, rfl⟩
  rw [← hgb] at hB1 hB2 ⊢
  have hgl : w.heap.size ≤ gb := by omega
  clear hw2 hgb
  have HB := Lib.hid hb2
  have HB1 := Lib.hid hB1
  have HB2 := Lib.hid hB2
  have HP := Lib.hid hP
  have a8 := hB1.cell 8
  simp only [PAct.cs, zGA, zGB, zGC] at a8
  have HNX : Hid (∀ W, Below w2.heap.size w2 W → Calls Tryz.prog 13 #[ptr gl] W fun e w' => e = .returned (.int .u64 l.next) ∧ w' = W) := fun W hb => py_next (hS2.below hb)
  clear hb2 hB1 hB2 hP hS2
  cases ho : a.own with
  | false =>
    rw [ho] at a8
    have hpg : y = a.x := by rw [HYY.out]; unfold PAct.pg; rw [ho]; rfl
    subst hpg
    have a2 := HB1.out.cell 2
    have a3 := HB1.out.cell 3
    have a4 := HB1.out.cell 4
    have a5 := HB1.out.cell 5
    have a6 := HB1.out.cell 6
    have a7 := HB1.out.cell 7
    simp only [PAct.cs, zGA, zGB, zGC] at a2 a3 a4 a5 a6 a7
    have HR := Lib.hid hR
    clear hR ho
    go_wp2_with (refine wpList_store_part rfl _ _ _ rfl (gb + 1) 0 (pgCs a.x AX cX) rfl rfl _ _ HB2.out pgr_size (by show 0 + 6 ≤ 6; omega) (by simp [Value.oneCell']) ?_)
    have hB5 : Blk (w2.setRow (gb + 1) (pgCs a.x AX cX)) (gb + 1) 32 (pgCs a.x AX cX) := HB2.out.setRow _
    have hbf := below_setRow HB.out (g := gb + 1) (by omega) (pgCs a.x AX cX)
    exact bodyPost_ret (v := pgV a.x AX cX) (results_cell_row rfl _ _ (gb + 1) 32 _ (0, 0) _ rfl hB5 Tryz.underlying32 rfl rfl) rfl ⟨AX, cX, rfl, hN, (Reads.below HR.out hbf).mono (fun b hb => .inl hb), hbf⟩
  | true =>
    rw [ho] at a8
    have hpg : y = ⟨1, 0, a.page, l.next, 0, [a.row]⟩ := by rw [HYY.out]; unfold PAct.pg; rw [ho]; rfl
    subst hpg
    clear hR ho
    go_wp2_with fail
    have hSof : ∀ (W : World), Below w2.heap.size w2 W → W.cell? ⟨gP, 1, none⟩ = some (ptr gl) ∧ W.cell? ⟨gb, 1, none⟩ = some (.int .u32 a.page) ∧ W.cell? ⟨gb, 9, none⟩ = some (str a.row) := fun W hb => ⟨((HP.out.below hb HP.out.lt).cell 1).trans rfl, ((HB1.out.below hb HB1.out.lt).cell 1).trans rfl, ((HB1.out.below hb HB1.out.lt).cell 9).trans rfl⟩
    have HSO := Lib.hid hSof
    clear hSof a8
    have hb0 : Below w2.heap.size w2 w2.drew := (Below.refl w2.heap.size w2).drew
    have hS0 := Lib.hid (HSO.out w2.drew hb0)
    refine R_begin (fun (W : World) => W.cell? ⟨gP, 1, none⟩ = some (ptr gl) ∧ W.cell? ⟨gb, 1, none⟩ = some (.int .u32 a.page) ∧ W.cell? ⟨gb, 9, none⟩ = some (str a.row)) (fun j => decide (11 ≤ j)) rfl ?_
    refine R_tt 0 10 hS0.out ?_
    simp only [zSA, zSB, zSC]
    refine R_tt 1 11 hS0.out ?_
    simp only [zSA, zSB, zSC]
    refine R_tt 2 12 hS0.out ?_
    simp only [zSA, zSB, zSC]
    refine R_tt 3 13 hS0.out ?_
    simp only [zSA, zSB, zSC]
    refine R_tt 4 14 hS0.out ?_
    simp only [zSA, zSB, zSC]
    refine R_tt 5 15 hS0.out ?_
    simp only [zSA, zSB, zSC]
    refine R_tt 7 17 hS0.out ?_
    simp only [zSA, zSB, zSC]
    refine R_tt 8 18 hS0.out ?_
    simp only [zSA, zSB, zSC]
    refine R_all (rs := [6, 9]) (by kernel_rfl) (by simp) (fun i hi => ?_)
    simp only [List.mem_cons, List.not_mem_nil, or_false] at hi
    rcases hi with rfl | rfl
    · skip
      refine op_call 16 (w' := w2.drew) rfl rfl (by rfl) ?_ (HNX.out w2.drew hb0) ?_
      · go_simp
      rintro e v1 ⟨rfl, rfl⟩
      refine ⟨_, rfl, fun _ => hS0.out, ?_⟩
      simp only [zSA, zSB, zSC]
      have hc1 := (Below.refl w2.drew.heap.size w2.drew).alloc (Nat.le_refl _) (.cells #[str a.row] 9)
      have hb1 := hb0.trans (hc1.mono hb0.size)
      have hn1 := Blk.new w2.drew 9 #[str a.row]
      have hS1 := Lib.hid (HSO.out _ hb1)
      refine R_run 9 19 (v := .slice (some ⟨w2.drew.heap.size, 0, none⟩) 1 1) (w' := (w2.drew.alloc (.cells #[str a.row] 9))) rfl rfl (by rfl) (by kernel_rfl) ?_ (fun _ => hS1.out) ?_
      · first | (go_simp; done) | (go_simp; rfl)
      simp only [zSA, zSB, zSC]
      refine R_tt 10 20 hS1.out ?_
      simp only [zSA, zSB, zSC]
      have hB4 := HB2.out.below hb1 HB2.out.lt
      refine R_store 11 (n := .skip) (w' := ((w2.drew.alloc (.cells #[str a.row] 9)).setRow (gb + 1) #[.int .u8 1, .int .u8 0, .int .u32 a.page, .int .u64 l.next, .int .u32 0, .slice (some ⟨w2.drew.heap.size, 0, none⟩) 1 1])) rfl rfl (by rfl) (by kernel_rfl) (run_op_store _ _ _ ⟨gb + 1, 0, none⟩ _ rfl rfl rfl (run_storeVar_part _ _ 0 _ _ #[.int .u8 0, .int .u8 0, .int .u32 0, .int .u64 0, .int .u32 0, .slice none 0 0] #[.int .u8 1, .int .u8 0, .int .u32 a.page, .int .u64 l.next, .int .u32 0, .slice (some ⟨w2.drew.heap.size, 0, none⟩) 1 1] hB4 pgr_size (by show 0 + 6 ≤ 6; omega) (by simp [Value.oneCell']))) (.inl rfl) (fun h => nomatch h) ?_
      refine R_done (by kernel_rfl) ?_ _
      rename_i K9 hK9
      refine hK9 _ _ ?_
      clear hK9
      have hB5 : Blk ((w2.drew.alloc (.cells #[str a.row] 9)).setRow (gb + 1) #[.int .u8 1, .int .u8 0, .int .u32 a.page, .int .u64 l.next, .int .u32 0, .slice (some ⟨w2.drew.heap.size, 0, none⟩) 1 1]) (gb + 1) 32 #[.int .u8 1, .int .u8 0, .int .u32 a.page, .int .u64 l.next, .int .u32 0, .slice (some ⟨w2.drew.heap.size, 0, none⟩) 1 1] := hB4.setRow _
      have hsz := hb1.size
      have hone : ((w2.drew.alloc (.cells #[str a.row] 9)).setRow (gb + 1) #[.int .u8 1, .int .u8 0, .int .u32 a.page, .int .u64 l.next, .int .u32 0, .slice (some ⟨w2.drew.heap.size, 0, none⟩) 1 1]).cell? ⟨w2.drew.heap.size, 0, none⟩ = some (str a.row) := (World.cell?_of_block (w := (w2.drew.alloc (.cells #[str a.row] 9))) (a := ⟨w2.drew.heap.size, 0, none⟩) (heap_setRow_other _ _ _ _ (by have := HB2.out.lt; have := hb1.size; simp at *; omega))).trans ((hn1.cell 0).trans rfl)
      have hbf := below_setRow (HB.out.trans (hb1.mono HB.out.size)) (g := gb + 1) (by omega) #[.int .u8 1, .int .u8 0, .int .u32 a.page, .int .u64 l.next, .int .u32 0, .slice (some ⟨w2.drew.heap.size, 0, none⟩) 1 1]
      go_wp2_with fail
      refine bodyPost_ret (v := pgV ⟨1, 0, a.page, l.next, 0, [a.row]⟩ (some ⟨w2.drew.heap.size, 0, none⟩) 1) (results_cell_row rfl _ _ (gb + 1) 32 _ (0, 0) _ rfl hB5 Tryz.underlying32 rfl rfl) rfl ⟨_, _, rfl, .inl ⟨_, rfl⟩, ⟨rfl, fun _ => ⟨w2.drew.heap.size, 0, rfl, .inr (by have := HB.out.size; simp at *; omega), by simp [World.setRow], fun j u hu => ?_⟩⟩, hbf⟩
      match j, hu with
      | 0, hu => injection hu with hu; rw [← hu]; exact hone
    · skip
      have hc1 := (Below.refl w2.drew.heap.size w2.drew).alloc (Nat.le_refl _) (.cells #[str a.row] 9)
      have hb1 := hb0.trans (hc1.mono hb0.size)
      have hn1 := Blk.new w2.drew 9 #[str a.row]
      have hS1 := Lib.hid (HSO.out _ hb1)
      refine op_run 19 (v := .slice (some ⟨w2.drew.heap.size, 0, none⟩) 1 1) (w' := (w2.drew.alloc (.cells #[str a.row] 9))) rfl rfl (by rfl) ?_ ⟨fun _ => hS1.out, ?_⟩
      · first | (go_simp; done) | (go_simp; rfl)
      simp only [zSA, zSB, zSC]
      refine R_call 6 16 (w' := (w2.drew.alloc (.cells #[str a.row] 9))) rfl rfl (by rfl) (by kernel_rfl) ?_ (HNX.out (w2.drew.alloc (.cells #[str a.row] 9)) hb1) ?_
      · go_simp
      rintro e v1 ⟨rfl, rfl⟩
      refine ⟨_, rfl, fun _ => hS1.out, ?_⟩
      simp only [zSA, zSB, zSC]
      refine R_tt 10 20 hS1.out ?_
      simp only [zSA, zSB, zSC]
      have hB4 := HB2.out.below hb1 HB2.out.lt
      refine R_store 11 (n := .skip) (w' := ((w2.drew.alloc (.cells #[str a.row] 9)).setRow (gb + 1) #[.int .u8 1, .int .u8 0, .int .u32 a.page, .int .u64 l.next, .int .u32 0, .slice (some ⟨w2.drew.heap.size, 0, none⟩) 1 1])) rfl rfl (by rfl) (by kernel_rfl) (run_op_store _ _ _ ⟨gb + 1, 0, none⟩ _ rfl rfl rfl (run_storeVar_part _ _ 0 _ _ #[.int .u8 0, .int .u8 0, .int .u32 0, .int .u64 0, .int .u32 0, .slice none 0 0] #[.int .u8 1, .int .u8 0, .int .u32 a.page, .int .u64 l.next, .int .u32 0, .slice (some ⟨w2.drew.heap.size, 0, none⟩) 1 1] hB4 pgr_size (by show 0 + 6 ≤ 6; omega) (by simp [Value.oneCell']))) (.inl rfl) (fun h => nomatch h) ?_
      refine R_done (by kernel_rfl) ?_ _
      rename_i K9 hK9
      refine hK9 _ _ ?_
      clear hK9
      have hB5 : Blk ((w2.drew.alloc (.cells #[str a.row] 9)).setRow (gb + 1) #[.int .u8 1, .int .u8 0, .int .u32 a.page, .int .u64 l.next, .int .u32 0, .slice (some ⟨w2.drew.heap.size, 0, none⟩) 1 1]) (gb + 1) 32 #[.int .u8 1, .int .u8 0, .int .u32 a.page, .int .u64 l.next, .int .u32 0, .slice (some ⟨w2.drew.heap.size, 0, none⟩) 1 1] := hB4.setRow _
      have hsz := hb1.size
      have hone : ((w2.drew.alloc (.cells #[str a.row] 9)).setRow (gb + 1) #[.int .u8 1, .int .u8 0, .int .u32 a.page, .int .u64 l.next, .int .u32 0, .slice (some ⟨w2.drew.heap.size, 0, none⟩) 1 1]).cell? ⟨w2.drew.heap.size, 0, none⟩ = some (str a.row) := (World.cell?_of_block (w := (w2.drew.alloc (.cells #[str a.row] 9))) (a := ⟨w2.drew.heap.size, 0, none⟩) (heap_setRow_other _ _ _ _ (by have := HB2.out.lt; have := hb1.size; simp at *; omega))).trans ((hn1.cell 0).trans rfl)
      have hbf := below_setRow (HB.out.trans (hb1.mono HB.out.size)) (g := gb + 1) (by omega) #[.int .u8 1, .int .u8 0, .int .u32 a.page, .int .u64 l.next, .int .u32 0, .slice (some ⟨w2.drew.heap.size, 0, none⟩) 1 1]
      go_wp2_with fail
      refine bodyPost_ret (v := pgV ⟨1, 0, a.page, l.next, 0, [a.row]⟩ (some ⟨w2.drew.heap.size, 0, none⟩) 1) (results_cell_row rfl _ _ (gb + 1) 32 _ (0, 0) _ rfl hB5 Tryz.underlying32 rfl rfl) rfl ⟨_, _, rfl, .inl ⟨_, rfl⟩, ⟨rfl, fun _ => ⟨w2.drew.heap.size, 0, rfl, .inr (by have := HB.out.size; simp at *; omega), by simp [World.setRow], fun j u hu => ?_⟩⟩, hbf⟩
      match j, hu with
      | 0, hu => injection hu with hu; rw [← hu]; exact hone
end
end Go.Proofs.YtndglfiepeefdaaGreat

/- The walk of the law package pentimentolaw15: Heavy. -/
namespace Go.Proofs.YtndglfiepeefdaaGreat
open Go.RowKit Go.Conc

/-- What Heavy looks at, of an act. -/
structure HvA where
  row : ByteArray
  np : Nat
  rows : List ByteArray
def sizes (l : List ByteArray) : Nat := (l.map ByteArray.size).sum
def HvA.w (a : HvA) : Nat := a.row.size + a.np + 4 * a.rows.length + sizes (a.rows.take 50)
def hvSum (l : List HvA) : Nat := (l.map HvA.w).sum
def hvB (l : List HvA) : Bool := decide (60 < l.length) || decide (4000 < hvSum (l.take 100))
/-- An act within the reach. -/
def HvA.ok (a : HvA) : Prop := a.row.size ≤ 140737488355328 ∧ a.np ≤ 140737488355328 ∧ a.rows.length ≤ 140737488355328 ∧ ∀ s ∈ a.rows, s.size ≤ 140737488355328

theorem sizes_snoc (l : List ByteArray) (s : ByteArray) : sizes (l ++ [s]) = sizes l + s.size := by simp [sizes]
theorem hvSum_snoc (l : List HvA) (a : HvA) : hvSum (l ++ [a]) = hvSum l + a.w := by simp [hvSum]
theorem sizes_le : ∀ (l : List ByteArray), (∀ s ∈ l, s.size ≤ 140737488355328) → sizes l ≤ l.length * 140737488355328
  | [], _ => by simp [sizes]
  | s :: l, h => by
    have h1 := h s List.mem_cons_self
    have h2 := sizes_le l (fun x hx => h x (List.mem_cons_of_mem _ hx))
    unfold sizes at h2 ⊢
    simp only [List.map_cons, List.sum_cons, List.length_cons]
    omega
theorem HvA.w_le {a : HvA} (h : a.ok) : a.w ≤ 56 * 140737488355328 := by
  obtain ⟨h1, h2, h3, h4⟩ := h
  have := sizes_le (a.rows.take 50) (fun s hs => h4 s (List.mem_of_mem_take hs))
  have hl : (a.rows.take 50).length ≤ 50 := by simp; omega
  unfold HvA.w
  omega
theorem hvSum_le : ∀ (l : List HvA), (∀ a ∈ l, a.ok) → hvSum l ≤ l.length * (56 * 140737488355328)
  | [], _ => by simp [hvSum]
  | s :: l, h => by
    have h1 := HvA.w_le (h s List.mem_cons_self)
    have h2 := hvSum_le l (fun x hx => h x (List.mem_cons_of_mem _ hx))
    unfold hvSum at h2 ⊢
    simp only [List.map_cons, List.sum_cons, List.length_cons]
    omega

/-- The acts in memory, as far as Heavy looks. -/
def HvAt (w : World) (A : Option Addr) (l : List HvA) : Prop :=
  0 < l.length → ∃ b o, A = some ⟨b, o, none⟩ ∧ b < w.heap.size ∧ ∀ i a, l[i]? = some a → w.cell? ⟨b, o + i * 11 + 9, none⟩ = some (.string a.row) ∧ (∃ P c, w.cell? ⟨b, o + i * 11 + 10, none⟩ = some (.slice P a.np c)) ∧
    ∃ R c, w.cell? ⟨b, o + i * 11 + 7, none⟩ = some (.slice R a.rows.length c) ∧ Reads (fun b => b < w.heap.size) w 1 R a.rows.length (a.rows.map Value.string)

theorem hv_below {W w1 : World} (hb : Below W.heap.size W w1) {b o : Nat} {v : Value} (hl : b < W.heap.size) (h : W.cell? ⟨b, o, none⟩ = some v) : w1.cell? ⟨b, o, none⟩ = some v := (hb.cell (p := ⟨b, o, none⟩) hl).trans h

set_option maxRecDepth 100000 in
set_option maxHeartbeats 2000000 in
theorem law_heavy (A : Option Addr) (cap : Nat) (l : List HvA) (hl : l.length ≤ 140737488355328) (hok : ∀ a ∈ l, a.ok) (w : World) (h : HvAt w A l) :
    Calls Tryz.prog 6 #[.slice A l.length cap] w fun e w' => e = .returned (.bool (hvB l)) ∧ Below w.heap.size w w' := by
  have H := Lib.hid h
  have HOK := Lib.hid hok
  clear h hok
  go_enter Tryz.func6, Tryz.ntmps6
  go_wp2_with fail
  go_loopw [3, 4] (fun n i wr => ∃ k : Nat, k ≤ l.length ∧ k ≤ 100 ∧ i = .int .i64 k ∧ n = .int .i64 (hvSum (l.take k) : Nat) ∧ Below w.heap.size w wr) (fun _ i _ => 100 - (intOf i).toNat)
  case atStart => exact ⟨0, by omega, by omega, rfl, rfl, Below.refl _ _⟩
  case round =>
    obtain ⟨k, hk, hk1, rfl, rfl, hbk⟩ := hrel
    have hsum := hvSum_le (l.take k) (fun a ha => HOK.out a (List.mem_of_mem_take ha))
    have hlk : (l.take k).length ≤ 100 := by simp; omega
    have hs63 : hvSum (l.take k) ≤ 100 * (56 * 140737488355328) := Nat.le_trans hsum (Nat.mul_le_mul_right _ hlk)
    by_cases hc : k < l.length ∧ k < 100
    · obtain ⟨hlt, h100⟩ := hc
      obtain ⟨a, ha⟩ : ∃ a, l[k]? = some a := ⟨l[k], List.getElem?_eq_getElem hlt⟩
      have hao := HOK.out a (List.mem_of_getElem? ha)
      have haw := HvA.w_le hao
      obtain ⟨b, o, rfl, hb, hcells⟩ := H.out (by omega)
      obtain ⟨c9, ⟨Pp, cp, c10⟩, R, cr, c7, hR⟩ := hcells k a ha
      have c9 := hv_below hbk hb c9
      have c10 := hv_below hbk hb c10
      have c7 := hv_below hbk hb c7
      have HR := Lib.hid hR
      have hts : l.take (k + 1) = l.take k ++ [a] := by
        rw [List.take_succ_eq_append_getElem hlt]
        have : l[k] = a := by rw [List.getElem?_eq_getElem hlt] at ha; injection ha
        rw [this]
      have HS := Lib.hid (show hvSum (l.take (k + 1)) = hvSum (l.take k) + a.w by rw [hts, hvSum_snoc])
      clear hts hcells ha hsum hlk hR
      generalize hvSum (l.take k) = n0 at *
      obtain ⟨h1, h2, h3, h4⟩ := hao
      have hR4 := Lib.hid h4
      clear h4
      have haw' : a.row.size + a.np + 4 * a.rows.length ≤ 56 * 140737488355328 := by unfold HvA.w at haw; omega
      go_wp2_with fail
      go_quiet (fail)
      go_wp2_with fail
      obtain ⟨wq, hwq⟩ : ∃ wq, wq = wr.drewN nq := ⟨_, rfl⟩
      have hbq : Below w.heap.size w wq := by rw [hwq]; exact ⟨hbk.os, hbk.tape, hbk.output, hbk.size, hbk.block⟩
      have c7q : wq.cell? ⟨b, o + k * 11 + 7, none⟩ = some (.slice R a.rows.length cr) := by rw [hwq]; exact c7
      rw [← hwq]
      obtain ⟨m, hm⟩ : ∃ m, m = n0 + a.row.size + a.np + 4 * a.rows.length := ⟨_, rfl⟩
      have em : (n0 : Int) + a.row.size + a.np + 4 * a.rows.length = (m : Int) := by omega
      rw [em]
      have hm2 : m ≤ 100 * (56 * 140737488355328) + 56 * 140737488355328 := by omega
      have HM := Lib.hid hm
      have hbwq : wr.heap.size = wq.heap.size := by rw [hwq]; rfl
      have c7q' : Below wq.heap.size wr wq := by rw [hwq]; exact ⟨rfl, rfl, rfl, Nat.le_refl _, fun _ _ => rfl⟩
      clear hm em c9 c10 c7 hwq haw' hbk hbwq c7q'
      go_loopw [3, 5] (fun n i wz => ∃ j : Nat, j ≤ a.rows.length ∧ j ≤ 50 ∧ i = .int .i64 j ∧ n = .int .i64 (m + sizes (a.rows.take j) : Nat) ∧ Below wq.heap.size wq wz) (fun _ i _ => 50 - (intOf i).toNat)
      case atStart => exact ⟨0, by omega, by omega, rfl, rfl, Below.refl _ _⟩
      case round =>
        obtain ⟨j, hj, hj1, rfl, rfl, hbj⟩ := hrel
        have hbl : b < wq.heap.size := Nat.lt_of_lt_of_le hb hbq.size
        have c7z := hv_below hbj hbl c7q
        have hsz := sizes_le (a.rows.take j) (fun s hs => hR4.out s (List.mem_of_mem_take hs))
        have hlj : (a.rows.take j).length ≤ 50 := by simp; omega
        have hsz2 : sizes (a.rows.take j) ≤ 50 * 140737488355328 := Nat.le_trans hsz (Nat.mul_le_mul_right _ hlj)
        by_cases hc2 : j < a.rows.length ∧ j < 50
        · obtain ⟨hlt2, h50⟩ := hc2
          obtain ⟨b3, o3, u, rfl, hb3, hb3l, hu, hc3⟩ := HR.out.at_ hlt2
          obtain ⟨s, hs⟩ : ∃ s, a.rows[j]? = some s := ⟨a.rows[j], List.getElem?_eq_getElem hlt2⟩
          have hu' : u = .string s := by
            have : (a.rows.map Value.string)[j]? = some (.string s) := by rw [List.getElem?_map, hs]; rfl
            rw [hu] at this; injection this
          rw [hu'] at hc3
          have hc3' := hv_below hbj (Nat.lt_of_lt_of_le hb3 hbq.size) (hv_below hbq hb3 hc3)
          have hss := hR4.out s (List.mem_of_getElem? hs)
          have hts : a.rows.take (j + 1) = a.rows.take j ++ [s] := by
            rw [List.take_succ_eq_append_getElem hlt2]
            have : a.rows[j] = s := by rw [List.getElem?_eq_getElem hlt2] at hs; injection hs
            rw [this]
          have HS2 := Lib.hid (show sizes (a.rows.take (j + 1)) = sizes (a.rows.take j) + s.size by rw [hts, sizes_snoc])
          clear hu hu' hc3 hs hts hsz hlj hb3
          generalize sizes (a.rows.take j) = n1 at *
          go_wp2_with fail
          go_roundw
          case rel => exact ⟨j + 1, hlt2, h50, by go_num, by rw [HS2.out]; go_num, hbj⟩
          case measure => simp [intOf]; omega
        · have e50 : a.rows.take j = a.rows.take 50 := by
            by_cases h50 : j = 50
            · rw [h50]
            · rw [List.take_of_length_le (by omega), List.take_of_length_le (by omega)]
          have HE : Hid (hvSum (l.take (k + 1)) = m + sizes (a.rows.take j)) := Lib.hid (by rw [HS.out, HM.out, e50]; unfold HvA.w; omega)
          clear e50 hsz hlj
          generalize sizes (a.rows.take j) = n1 at *
          by_cases hlt2 : j < a.rows.length
          · have h50 : ¬ j < 50 := fun h => hc2 ⟨hlt2, h⟩
            clear hc2
            go_wp2_with fail
            go_roundw
            case rel => exact ⟨k + 1, hlt, h100, by go_num, by rw [HE.out], hbq.trans (hbj.mono hbq.size)⟩
            case measure => simp [intOf]; omega
          · clear hc2
            go_wp2_with fail
            go_roundw
            case rel => exact ⟨k + 1, hlt, h100, by go_num, by rw [HE.out], hbq.trans (hbj.mono hbq.size)⟩
            case measure => simp [intOf]; omega
    · have e100 : l.take k = l.take 100 := by
        by_cases h100 : k = 100
        · rw [h100]
        · rw [List.take_of_length_le (by omega), List.take_of_length_le (by omega)]
      have HB : Hid (hvB l = (decide (60 < l.length) || decide (4000 < hvSum (l.take k)))) := Lib.hid (by rw [e100]; rfl)
      clear e100 hsum hlk
      generalize hvSum (l.take k) = n0 at *
      by_cases hlt : k < l.length
      · have h100 : ¬ k < 100 := fun h => hc ⟨hlt, h⟩
        have h60 : 60 < l.length := by omega
        clear hc
        go_wp2_with fail
        go_ret
        exact ⟨by rw [HB.out]; simp [h60], hbk⟩
      · clear hc
        by_cases h60 : 60 < l.length
        · go_wp2_with fail
          go_ret
          exact ⟨by rw [HB.out]; simp [h60], hbk⟩
        · go_wp2_with fail
          go_ret
          refine ⟨?_, hbk⟩
          rw [HB.out]
          simp only [h60, decide_false, Bool.false_or]
          have e1 : decide (60 < (l.length : Int)) = false := by rw [decide_eq_false_iff_not]; omega
          rw [e1, Bool.false_or]
          have e2 : decide (4000 < (n0 : Int)) = decide (4000 < n0) := decide_eq_decide.2 (by omega)
          rw [e2]
          rfl
end Go.Proofs.YtndglfiepeefdaaGreat

/- The acts of PoolPlays in memory. -/
namespace Go.Proofs.YtndglfiepeefdaaGreat
open Go.RowKit Go.Conc

def baOf (b : Sp.Bs) : ByteArray := ⟨b.toArray⟩
def PAct.hv (a : PAct) : HvA := ⟨baOf a.row, a.pages.length, a.x.rows.map baOf⟩
/-- The acts in memory. -/
def PActAt (w : World) (A : Option Addr) (ls : List PAct) : Prop :=
  0 < ls.length → ∃ b o, A = some ⟨b, o, none⟩ ∧ b < w.heap.size ∧ ∀ i a, ls[i]? = some a → ∃ AX cX AP cP, NilOk AX cX a.x.rows.length ∧ RowsAt (fun b => b < w.heap.size) w AX a.x.rows ∧ NilOk AP cP a.pages.length ∧ Reads (fun b => b < w.heap.size) w 1 AP a.pages.length (a.pages.map u32v) ∧ ∀ j, j < 11 → w.cell? ⟨b, o + i * 11 + j, none⟩ = (a.cs AX cX AP cP)[j]?
/-- What an act has to be. -/
structure PAct.Ok (a : PAct) : Prop where
  do_ : a.do_ < 256
  page : a.page < 4294967296
  x : a.x.wf
  pages : ∀ n ∈ a.pages, n < 4294967296
  rows : ∀ r ∈ a.x.rows, r.length ≤ 140737488355328

end Go.Proofs.YtndglfiepeefdaaGreat

/- PoolPlays: an act, of both pools (Does). -/
namespace Go.Proofs.YtndglfiepeefdaaGreat
open Go.RowKit Go.Conc

theorem PAct.pg_ok {a : PAct} {n : Nat} (h1 : a.page < 4294967296) (h2 : a.x.wf) (h3 : n < 18446744073709551616) (h4 : a.row.length ≤ 100000) (h5 : a.x.rows.length ≤ 100000) (h6 : Sp.total a.x.rows ≤ 1000000000000000000) : (a.pg n).wf ∧ (a.pg n).rows.length ≤ 100000 ∧ Sp.total (a.pg n).rows ≤ 1000000000000000000 := by
  unfold PAct.pg
  split
  · refine ⟨⟨by show 1 < 256; omega, by show 0 < 256; omega, h1, h3, by show 0 < _; omega⟩, by show 1 ≤ _; omega, ?_⟩
    have : Sp.total [a.row] = a.row.length := by simp [Sp.total]
    show Sp.total [a.row] ≤ _
    omega
  · exact ⟨h2, h5, h6⟩

theorem run_append_none0 {P : Program} (w : World) (t ty e : TypeId) (i : TypeInfo) (ht : P.underlying t = some (.slice e)) (hi : P.info? e = some i) (A : Option Addr) (c : Nat) : (Builtin.append_ #[t, t] ty #[.slice none 0 0, .slice A 0 c]).run P w = .ok (.slice none 0 0) w := by
  cases A <;> simp [Builtin.append_, run_underlying ht, sizeOf, typeInfo, hi, Builtin.lenOf, Builtin.firstCells, loadCells, loadCellsFrom]
set_option maxRecDepth 100000 in
/-- A row of numbers of one's own. -/
theorem wp_copy_u32 {w : World} {o : Oper} {a : Act} {K : Act → World → Prop} {Q : Exit → Act → World → Prop} {G : Foot} {AP : Option Addr} {cP : Nat} {q : List Nat} (x : Operand) (ho : o.op = .call { callee := .builtin .append, args := #[.const (.slice none 0 0), x], argTypes := #[33, 33] })
    (hx : a.eval x = .slice AP q.length cP) (hN : NilOk AP cP q.length) (hR : Reads G w 1 AP q.length (q.map u32v)) (hl : q.length ≤ 10000)
    (h : ∀ A' c' w', OkAddr A' → (q.length = 0 → A' = none) → Reads (fun b => w.heap.size ≤ b) w' 1 A' q.length (q.map u32v) → Below w.heap.size w w' → K (a.put o.dst (.slice A' q.length c')) w') : o.wp Tryz.prog a w K Q := by
  obtain ⟨iu, hiu, hz0, hz1, hz2⟩ := info_parts u32_info
  by_cases h0 : q.length = 0
  · have hq : q = [] := List.eq_nil_of_length_eq_zero h0
    subst hq
    have hr := run_append_none0 w 33 o.type 28 iu Tryz.underlying33 hiu AP cP
    have hx' : a.eval x = .slice AP 0 cP := hx
    unfold Oper.wp execOp
    have hs : a.eval (.const (.slice none 0 0)) = .slice none 0 0 := rfl
    simp only [ho, resolve, invoke, builtin, Sem.run_bind, Sem.run_pure, Result.andThen_ok, List.map_toArray, List.map_cons, List.map_nil, hs, hx', hr]
    exact h none 0 w (.inl rfl) (fun _ => rfl) Reads.none_ (Below.refl _ _)
  · rcases hN with ⟨ad, rfl⟩ | ⟨_, _, hn0⟩
    · refine wp_append_own2 w (.const (.slice none 0 0)) x _ ho w.heap.size 28 iu _ 1 4 Tryz.underlying33 hiu hz0 hz1 hz2 rfl (by decide) (.slice none 0 0) 0 [] rfl (World.ownsRow_nil _ _ _ _) ad q.length cP (q.map u32v) hx (by simp) (fun j u hu => ?_) (fun u hu => by obtain ⟨z, _, rfl⟩ := List.mem_map.1 hu; rfl) (by unfold maxLen; omega) (by omega) (Nat.le_refl _) ?_
      · obtain ⟨b, o', e, _, _, hc⟩ := hR.2 (by omega)
        injection e with e
        subst e
        rw [addr_addn]
        exact hc j u hu
      · intro v' w' q1 q2 q3
        replace q2 : w.grownBy w' none := q2
        replace q1 : w'.ownsRow w.heap.size 28 1 v' q.length (q.map u32v) := by simpa using q1
        have hb : Below w.heap.size w w' := (Below.refl _ _).grown q2 (Nat.le_refl _) (fun k e => nomatch e)
        rcases q1.2 with ⟨_, e⟩ | ⟨g, cap, cur, e, _⟩
        · omega
        · subst e
          exact h _ _ _ (.inr ⟨g, 0, rfl⟩) (fun e => absurd e h0) (own_readsB q1) hb
    · exact absurd hn0 h0

section
variable {B gP gd gl gp gr : Nat} {O G : Foot} {l : Sp.Lg} {s : Sp.R15} {w : World}
set_option maxRecDepth 100000 in
set_option maxHeartbeats 8000000 in
theorem law15_does (h : PyS B gP gd gl gp gr O G l s s w) {m : Nat} (hle : s.le m) (hm : m < 100000) (hf6 : s.frames ≤ 6) (hnx : l.next < 100000000000) (hr0 : l.reserved < 1000000000) {a : PAct} (hdo : a.do_ < 256) (hpg : a.page < 4294967296) (hxw : a.x.wf) (hrow : a.row.length ≤ 100000) (hxr : a.x.rows.length ≤ 100000) (hxt : Sp.total a.x.rows ≤ 1000000000000000000) (hpl : a.pages.length ≤ 10000) (hpp : ∀ n ∈ a.pages, n < 4294967296)
    {AX AP : Option Addr} {cX cP : Nat} (hN : NilOk AX cX a.x.rows.length) (hR : RowsAt G w AX a.x.rows) (hNP : NilOk AP cP a.pages.length) (hRP : Reads G w 1 AP a.pages.length (a.pages.map u32v)) :
    Calls Tryz.prog 9 #[ptr gP, .agg (a.cs AX cX AP cP)] w fun e w' => e = .returned (.bool true) ∧ PyEnd B gP gd gl gp gr O G m l s w w' := by
  have hok := h.ok hle (by omega)
  have hb1 := (Below.refl w.heap.size w).alloc (Nat.le_refl _) (.cells (a.cs AX cX AP cP) 35)
  have hB1 := Blk.new w 35 (a.cs AX cX AP cP)
  have hS1 := h.below hb1
  have hsz : (w.alloc (.cells (a.cs AX cX AP cP) 35)).heap.size = w.heap.size + 1 := by simp
  have HKW : Hid (∀ w', Kept (pyK gP (fun b => O b ∨ (w.heap.size ≤ b ∧ b < (w.alloc (.cells (a.cs AX cX AP cP) 35)).heap.size)) G) (w.alloc (.cells (a.cs AX cX AP cP) 35)).drew w' → Kept (pyK gP O G) w w') := fun w' hk => by
    have h1 : Kept (pyK gP O G) w (w.alloc (.cells (a.cs AX cX AP cP) 35)).drew := Kept.of_below (hb1.trans ((Below.refl _ _).drew.mono hb1.size)) (fun b hb => h.lt hb)
    refine h1.trans (hk.mono (fun b hb => ?_))
    rcases hb with e | e | e
    · exact .inl (.inl e)
    · exact .inr (.inl e)
    · exact .inr (.inr e)
  have HR := Lib.hid (Reads.below hR hb1)
  have HRP := Lib.hid (Reads.below hRP hb1)
  have HOK := Lib.hid hok
  have HKB : Hid (∀ w', Below w.heap.size w w' → Kept (pyK gP O G) w w') := fun w' hb => Kept.of_below hb (fun b hb => h.lt hb)
  have HBW := Lib.hid hb1
  go_enter Tryz.func9, Tryz.ntmps9
  go_upto_region 1 with fail
  change Code.wp _ _ _ _ (w.alloc (.cells (a.cs AX cX AP cP) 35))
  obtain ⟨gb, hgb⟩ : ∃ g, g = w.heap.size := ⟨_, rfl⟩
  have hgbO0 : w.heap.size ≤ gb ∧ gb < (w.alloc (.cells (a.cs AX cX AP cP) 35)).heap.size := by omega
  generalize hw1 : w.alloc (.cells (a.cs AX cX AP cP) 35) = w1 at *
  rw [← hgb] at hB1 ⊢
  have hgbO : (fun b => O b ∨ (w.heap.size ≤ b ∧ b < w1.heap.size)) gb := .inr hgbO0
  have HB1 := Lib.hid hB1
  have HS1 := Lib.hid hS1
  have HH := Lib.hid h
  have c0 := hB1.cell 0
  simp only [PAct.cs, List.getElem?_toArray, List.getElem?_cons_zero] at c0
  clear hw1 hB1 hS1 hR hRP hb1 hsz h hgb
  rename_i K9 hK9
  have h7 : a.do_ % 7 = 0 ∨ a.do_ % 7 = 1 ∨ a.do_ % 7 = 2 ∨ a.do_ % 7 = 3 ∨ a.do_ % 7 = 4 ∨ a.do_ % 7 = 5 ∨ a.do_ % 7 = 6 := by omega
  rcases h7 with h7 | h7 | h7 | h7 | h7 | h7 | h7
  · have d7 : (a.do_ : Int) % 7 = 0 := by omega
    have hpins : ∀ x ∈ s.L, x.pins < 1000000 := fun x hx => by have := hle x hx; omega
    have hSof : ∀ (W : World), Blk W gP 44 #[ptr gd, ptr gl, ptr gp, ptr gr] → Blk W gb 35 (a.cs AX cX AP cP) → W.cell? ⟨gP, 2, none⟩ = some (ptr gp) ∧ W.cell? ⟨gP, 3, none⟩ = some (ptr gr) ∧ W.cell? ⟨gb, 1, none⟩ = some (.int .u32 a.page) := fun W h1 h2 => ⟨(h1.cell 2).trans rfl, (h1.cell 3).trans rfl, (h2.cell 1).trans rfl⟩
    have HSO := Lib.hid hSof
    clear hSof
    obtain ⟨n, hn⟩ : ∃ n, n = (s.pin a.page).1 := ⟨_, rfl⟩
    obtain ⟨y, hy⟩ : ∃ y, y = ((s.pin a.page).2.1).getD Sp.zeroP := ⟨_, rfl⟩
    have HN := Lib.hid hn
    have HY := Lib.hid hy
    clear hn hy
    go_upto_region 3 with fail
    go_cut [5, 6] (fun v5 v6 wy => ∃ (g5 c : Nat) (A : Option Addr) (O2 : Foot), v5 = ptr g5 ∧ v6 = .int .i64 n ∧ y.rows.length ≤ 484 ∧ (∀ b, (fun b => O b ∨ (w.heap.size ≤ b ∧ b < w1.heap.size)) b → O2 b) ∧ O2 g5 ∧ Blk wy g5 32 (pgCs y A c) ∧ RowsAt O2 wy A y.rows ∧ PyS B gP gd gl gp gr O2 G { l with forced := (s.pin a.page).2.2.forced } (s.pin a.page).2.2 s wy ∧ Kept (pyK gP (fun b => O b ∨ (w.heap.size ≤ b ∧ b < w1.heap.size)) G) w1.drew wy)
    case first =>
      rename_i J8 K8 hJ8 hK8
      have hS := Lib.hid (HSO.out w1.drew HS1.out.play.drew HB1.out.drew)
      refine R_begin (fun (W : World) => W.cell? ⟨gP, 2, none⟩ = some (ptr gp) ∧ W.cell? ⟨gP, 3, none⟩ = some (ptr gr) ∧ W.cell? ⟨gb, 1, none⟩ = some (.int .u32 a.page)) (fun _ => false) rfl ?_
      refine R_tk 0 17 hS.out ?_
      simp only [zSA, zSB, zSC]
      refine R_tk 1 18 hS.out ?_
      simp only [zSA, zSB, zSC]
      refine R_tk 2 19 hS.out ?_
      simp only [zSA, zSB, zSC]
      refine R_tk 3 20 hS.out ?_
      simp only [zSA, zSB, zSC]
      refine R_tk 4 21 hS.out ?_
      simp only [zSA, zSB, zSC]
      refine R_tk 5 22 hS.out ?_
      simp only [zSA, zSB, zSC]
      refine R_all (rs := [6, 10]) (by kernel_rfl) (by simp) (fun i hi => ?_)
      simp only [List.mem_cons, List.not_mem_nil, or_false] at hi
      rcases hi with rfl | rfl
      · skip
        refine op_call 23 (w' := w1.drew) rfl rfl (by rfl) ?_ (py_pinP HS1.out.drew hpg hpins) ?_
        · go_simp
        rintro e v1 ⟨x, A, c, O2, rfl, hx, hxl, hO1, hRx, h1, k1⟩
        have hxy : x = y := by rw [HY.out, hx]
        clear hx
        subst hxy
        rw [← HN.out]
        have hB1 : Blk v1 gb 35 (a.cs AX cX AP cP) := HB1.out.drew.keep (k1.block gb (.inl hgbO))
        have hS1 := Lib.hid (HSO.out v1 h1.play hB1)
        refine ⟨_, rfl, fun _ => hS1.out, ?_⟩
        simp only [zSA, zSB, zSC]
        refine R_tk 7 16 hS1.out ?_
        simp only [zSA, zSB, zSC]
        refine R_tk 8 24 hS1.out ?_
        simp only [zSA, zSB, zSC]
        refine R_tk 9 25 hS1.out ?_
        simp only [zSA, zSB, zSC]
        have hba := (Below.refl v1.heap.size v1).alloc (Nat.le_refl _) (.cells #[.int .u8 0, .int .u8 0, .int .u32 0, .int .u64 0, .int .u32 0, .slice none 0 0] 32)
        have hB5 := Blk.new v1 32 #[.int .u8 0, .int .u8 0, .int .u32 0, .int .u64 0, .int .u32 0, .slice none 0 0]
        have h2 := h1.below hba
        have hsa : v1.heap.size < (v1.alloc (.cells #[.int .u8 0, .int .u8 0, .int .u32 0, .int .u64 0, .int .u32 0, .slice none 0 0] 32)).heap.size := hB5.lt
        have hR2 := Reads.below hRx hba
        obtain ⟨g5, hg5⟩ : ∃ g, g = v1.heap.size := ⟨_, rfl⟩
        have hS2 := Lib.hid (HSO.out _ h2.play (hB1.below hba hB1.lt))
        refine R_run 10 5 (v := ptr v1.heap.size) (w' := v1.alloc (.cells #[.int .u8 0, .int .u8 0, .int .u32 0, .int .u64 0, .int .u32 0, .slice none 0 0] 32)) rfl rfl (by rfl) (by kernel_rfl) ?_ (fun _ => hS2.out) ?_
        · first | (go_simp; done) | (go_simp; rfl)
        simp only [zSA, zSB, zSC]
        rw [← hg5] at hB5 ⊢
        have hT : Turns (only g5) (only g5) (v1.alloc (.cells #[.int .u8 0, .int .u8 0, .int .u32 0, .int .u64 0, .int .u32 0, .slice none 0 0] 32)) ((v1.alloc (.cells #[.int .u8 0, .int .u8 0, .int .u32 0, .int .u64 0, .int .u32 0, .slice none 0 0] 32)).setRow g5 (pgCs x A c)) := (Turns.refl (only g5) _).setRow (g := g5) (.inl rfl) _
        have h3 := h2.own hT (fun b hb => .inr (by have hb : b = g5 := hb; omega))
        have hR3 := hR2.turns hT (fun b hb => ⟨by have := h1.lt (.inl hb.1); omega, fun e => by have e : b = g5 := e; have := h1.lt (.inl hb.1); omega⟩)
        have hB9 : Blk _ g5 32 (pgCs x A c) := hB5.setRow (pgCs x A c)
        have hgbn : gb ≠ g5 := by have := hB1.lt; omega
        have hS9 := Lib.hid (HSO.out _ h3.play ((hB1.below hba hB1.lt).turns hT (fun e => hgbn e)))
        have hkf : Kept (pyK gP (fun b => O b ∨ (w.heap.size ≤ b ∧ b < w1.heap.size)) G) w1.drew ((v1.alloc (.cells #[.int .u8 0, .int .u8 0, .int .u32 0, .int .u64 0, .int .u32 0, .slice none 0 0] 32)).setRow g5 (pgCs x A c)) := (k1.trans (Kept.of_below hba (fun b hb => by
          exact Nat.lt_of_lt_of_le (HS1.out.lt (b := b) hb) k1.size))).trans ⟨rfl, rfl, rfl, Nat.le_of_eq (by simp [World.setRow]), fun b hb => heap_setRow_other _ _ _ _ (fun e => by
          have := HS1.out.lt (b := b) hb; have h9 : w1.heap.size ≤ v1.heap.size := k1.size; omega)⟩
        refine R_store 11 (n := .skip) (w' := (v1.alloc (.cells #[.int .u8 0, .int .u8 0, .int .u32 0, .int .u64 0, .int .u32 0, .slice none 0 0] 32)).setRow g5 (pgCs x A c)) rfl rfl (by rfl) (by kernel_rfl) (run_op_store _ _ _ ⟨g5, 0, none⟩ (.agg (pgCs x A c)) rfl rfl rfl (run_storeVar_part _ _ 0 _ _ #[.int .u8 0, .int .u8 0, .int .u32 0, .int .u64 0, .int .u32 0, .slice none 0 0] (pgCs x A c) hB5 pgr_size (by show 0 + 6 ≤ 6; omega) (by simp [Value.oneCell']))) (.inl rfl) (fun _ => hS9.out) ?_
        refine R_tk 12 6 hS9.out ?_
        simp only [zSA, zSB, zSC]
        have HF := Lib.hid (And.intro hB9 (And.intro hR3 (And.intro h3 hkf)))
        clear hS hS1 hS2 hS9 h1 h2 h3 k1 hB1 hB5 hB9 hR2 hR3 hT hRx hkf hba
        refine R_done (by kernel_rfl) ?_ _
        refine hK8 _ _ ?_
        clear hK8
        go_meet
        case rel => exact ⟨g5, c, A, _, rfl, rfl, hxl, fun b hb => .inl (hO1 b hb), .inr (by omega), HF.out.1, HF.out.2.1.mono (fun b hb => .inl hb.1), HF.out.2.2.1, HF.out.2.2.2⟩
      · skip
        have hba := (Below.refl w1.heap.size w1).drew.alloc (Nat.le_refl _) (.cells #[.int .u8 0, .int .u8 0, .int .u32 0, .int .u64 0, .int .u32 0, .slice none 0 0] 32)
        have hB5 := Blk.new w1.drew 32 #[.int .u8 0, .int .u8 0, .int .u32 0, .int .u64 0, .int .u32 0, .slice none 0 0]
        have h0 := HS1.out.below hba
        have hsa : w1.heap.size < (w1.drew.alloc (.cells #[.int .u8 0, .int .u8 0, .int .u32 0, .int .u64 0, .int .u32 0, .slice none 0 0] 32)).heap.size := hB5.lt
        obtain ⟨g5, hg5⟩ : ∃ g, g = w1.heap.size := ⟨_, rfl⟩
        have hBb := HB1.out.below hba HB1.out.lt
        have hS1 := Lib.hid (HSO.out _ h0.play hBb)
        refine op_run 5 (v := ptr w1.heap.size) (w' := w1.drew.alloc (.cells #[.int .u8 0, .int .u8 0, .int .u32 0, .int .u64 0, .int .u32 0, .slice none 0 0] 32)) rfl rfl (by rfl) ?_ ⟨fun _ => hS1.out, ?_⟩
        · first | (go_simp; done) | (go_simp; rfl)
        simp only [zSA, zSB, zSC]
        have hgw : w1.drew.heap.size = w1.heap.size := rfl
        rw [hgw, ← hg5] at hB5
        rw [← hg5]
        refine R_call 6 23 (w' := w1.drew.alloc (.cells #[.int .u8 0, .int .u8 0, .int .u32 0, .int .u64 0, .int .u32 0, .slice none 0 0] 32)) rfl rfl (by rfl) (by kernel_rfl) ?_ (py_pinP h0 hpg hpins) ?_
        · go_simp
        rintro e v1 ⟨x, A, c, O2, rfl, hx, hxl, hO1, hRx, h1, k1⟩
        have hxy : x = y := by rw [HY.out, hx]
        clear hx
        subst hxy
        rw [← HN.out]
        have hB1 := hBb.keep (k1.block gb (.inl (.inl hgbO)))
        have hB6 := hB5.keep (k1.block g5 (.inl (.inr (by omega))))
        have hS2 := Lib.hid (HSO.out v1 h1.play hB1)
        refine ⟨_, rfl, fun _ => hS2.out, ?_⟩
        simp only [zSA, zSB, zSC]
        refine R_tk 7 16 hS2.out ?_
        simp only [zSA, zSB, zSC]
        refine R_tk 8 24 hS2.out ?_
        simp only [zSA, zSB, zSC]
        refine R_tk 9 25 hS2.out ?_
        simp only [zSA, zSB, zSC]
        have hT : Turns (only g5) (only g5) v1 (v1.setRow g5 (pgCs x A c)) := (Turns.refl (only g5) _).setRow (g := g5) (.inl rfl) _
        have hO5 : O2 g5 := hO1 g5 (.inr (by omega))
        have h3 := h1.own hT (fun b hb => by have hb : b = g5 := hb; rw [hb]; exact hO5)
        have hR3 := hRx.turns hT (fun b hb => ⟨h1.lt (.inl hb.1), fun e => by have e : b = g5 := e; have := hb.2; omega⟩)
        have hB9 : Blk _ g5 32 (pgCs x A c) := hB6.setRow (pgCs x A c)
        have hgbn : gb ≠ g5 := by have := HB1.out.lt; omega
        have hS9 := Lib.hid (HSO.out _ h3.play (hB1.turns hT (fun e => hgbn e)))
        have hkf : Kept (pyK gP (fun b => O b ∨ (w.heap.size ≤ b ∧ b < w1.heap.size)) G) w1.drew (v1.setRow g5 (pgCs x A c)) := ((Kept.of_below (w := w1.drew) (K := pyK gP (fun b => O b ∨ (w.heap.size ≤ b ∧ b < w1.heap.size)) G) ((Below.refl w1.heap.size w1.drew).alloc (Nat.le_refl _) (.cells #[.int .u8 0, .int .u8 0, .int .u32 0, .int .u64 0, .int .u32 0, .slice none 0 0] 32)) (fun b hb => HS1.out.lt (b := b) hb)).trans (k1.mono (fun b hb => hb.imp (fun e => .inl e) id))).trans ⟨rfl, rfl, rfl, Nat.le_of_eq (by simp [World.setRow]), fun b hb => heap_setRow_other _ _ _ _ (fun e => by have := HS1.out.lt (b := b) hb; omega)⟩
        refine R_store 11 (n := .skip) (w' := v1.setRow g5 (pgCs x A c)) rfl rfl (by rfl) (by kernel_rfl) (run_op_store _ _ _ ⟨g5, 0, none⟩ (.agg (pgCs x A c)) rfl rfl rfl (run_storeVar_part _ _ 0 _ _ #[.int .u8 0, .int .u8 0, .int .u32 0, .int .u64 0, .int .u32 0, .slice none 0 0] (pgCs x A c) hB6 pgr_size (by show 0 + 6 ≤ 6; omega) (by simp [Value.oneCell']))) (.inl rfl) (fun _ => hS9.out) ?_
        refine R_tk 12 6 hS9.out ?_
        simp only [zSA, zSB, zSC]
        have HF := Lib.hid (And.intro hB9 (And.intro hR3 (And.intro h3 hkf)))
        clear hS hS1 hS2 hS9 h0 h1 h3 k1 hB1 hB5 hB6 hBb hB9 hR3 hT hRx hkf hba
        refine R_done (by kernel_rfl) ?_ _
        refine hK8 _ _ ?_
        clear hK8
        go_meet
        case rel => exact ⟨g5, c, A, O2, rfl, rfl, hxl, fun b hb => hO1 b (.inl hb), hO5, HF.out.1, HF.out.2.1.mono (fun b hb => hb.1), HF.out.2.2.1, HF.out.2.2.2⟩
    case rest =>
      rename_i K8 hK8
      refine hK8 _ _ ?_
      clear hK8
      obtain ⟨g5, c, A, O2, rfl, rfl, hyl, hO12, hO5, hB5, hR5, h5, k5⟩ := hcut
      have hgbO2 : O2 gb := hO12 gb hgbO
      have HBB := Lib.hid (show Blk wc gb 35 (a.cs AX cX AP cP) from HB1.out.drew.keep (k5.block gb (.inl hgbO)))
      have H5 := Lib.hid h5
      have HB5 := Lib.hid hB5
      have HR5 := Lib.hid hR5
      have HK5 := Lib.hid k5
      have HO12 := Lib.hid hO12
      clear h5 hB5 hR5 k5 hO12
      generalize hlf : ({ l with forced := (s.pin a.page).2.2.forced } : Sp.Lg) = l2 at *
      have HLF := Lib.hid hlf
      clear hlf
      go_upto_region 4 with fail
      go_cut [7, 8] (fun v7 v8 wz => ∃ (g7 c2 : Nat) (A2 : Option Addr), v7 = ptr g7 ∧ v8 = .int .i64 n ∧ Blk wz g7 32 (pgCs y A2 c2) ∧ Blk wz g5 32 (pgCs y A c) ∧ RowsAt O2 wz A y.rows ∧ RowsAt G wz A2 y.rows ∧ PyS B gP gd gl gp gr O2 G l2 (s.pin a.page).2.2 (s.pin a.page).2.2 wz ∧ Kept (pyK gP O2 G) wc.drew wz)
      case first =>
        rename_i J8 K8 hJ8 hK8
        have hS := Lib.hid (HSO.out wc.drew H5.out.play.drew HBB.out.drew)
        refine R_begin (fun (W : World) => W.cell? ⟨gP, 2, none⟩ = some (ptr gp) ∧ W.cell? ⟨gP, 3, none⟩ = some (ptr gr) ∧ W.cell? ⟨gb, 1, none⟩ = some (.int .u32 a.page)) (fun _ => false) rfl ?_
        refine R_tk 0 27 hS.out ?_
        simp only [zSA, zSB, zSC]
        refine R_tk 1 28 hS.out ?_
        simp only [zSA, zSB, zSC]
        refine R_tk 2 29 hS.out ?_
        simp only [zSA, zSB, zSC]
        refine R_tk 3 30 hS.out ?_
        simp only [zSA, zSB, zSC]
        refine R_tk 4 31 hS.out ?_
        simp only [zSA, zSB, zSC]
        refine R_tk 5 32 hS.out ?_
        simp only [zSA, zSB, zSC]
        refine R_all (rs := [6, 10]) (by kernel_rfl) (by simp) (fun i hi => ?_)
        simp only [List.mem_cons, List.not_mem_nil, or_false] at hi
        rcases hi with rfl | rfl
        · skip
          refine op_call 33 (w' := wc.drew) rfl rfl (by rfl) ?_ (py_pinR H5.out.drew HOK.out hpg) ?_
          · go_simp
          rintro e v1 ⟨x, A2, c2, rfl, hx, hRx, h1, k1⟩
          have hxy : x = y := by rw [HY.out, hx]
          clear hx
          subst hxy
          rw [← HN.out]
          have hB1 : Blk v1 gb 35 (a.cs AX cX AP cP) := HBB.out.drew.keep (k1.block gb (.inl hgbO2))
          have hB2 : Blk v1 g5 32 (pgCs x A c) := HB5.out.drew.keep (k1.block g5 (.inl hO5))
          have hR1 : RowsAt O2 v1 A x.rows := HR5.out.keep k1.size (fun b hb => k1.block b (.inl hb))
          have hS1 := Lib.hid (HSO.out v1 h1.play hB1)
          refine ⟨_, rfl, fun _ => hS1.out, ?_⟩
          simp only [zSA, zSB, zSC]
          refine R_tk 7 26 hS1.out ?_
          simp only [zSA, zSB, zSC]
          refine R_tk 8 34 hS1.out ?_
          simp only [zSA, zSB, zSC]
          refine R_tk 9 35 hS1.out ?_
          simp only [zSA, zSB, zSC]
          have hba := (Below.refl v1.heap.size v1).alloc (Nat.le_refl _) (.cells #[.int .u8 0, .int .u8 0, .int .u32 0, .int .u64 0, .int .u32 0, .slice none 0 0] 32)
          have hB5 := Blk.new v1 32 #[.int .u8 0, .int .u8 0, .int .u32 0, .int .u64 0, .int .u32 0, .slice none 0 0]
          have h2 := h1.below hba
          have hsa : v1.heap.size < (v1.alloc (.cells #[.int .u8 0, .int .u8 0, .int .u32 0, .int .u64 0, .int .u32 0, .slice none 0 0] 32)).heap.size := hB5.lt
          obtain ⟨g7, hg7⟩ : ∃ g, g = v1.heap.size := ⟨_, rfl⟩
          have hS2 := Lib.hid (HSO.out _ h2.play (hB1.below hba hB1.lt))
          refine R_run 10 7 (v := ptr v1.heap.size) (w' := v1.alloc (.cells #[.int .u8 0, .int .u8 0, .int .u32 0, .int .u64 0, .int .u32 0, .slice none 0 0] 32)) rfl rfl (by rfl) (by kernel_rfl) ?_ (fun _ => hS2.out) ?_
          · first | (go_simp; done) | (go_simp; rfl)
          simp only [zSA, zSB, zSC]
          rw [← hg7] at hB5 ⊢
          have hT : Turns (only g7) (only g7) (v1.alloc (.cells #[.int .u8 0, .int .u8 0, .int .u32 0, .int .u64 0, .int .u32 0, .slice none 0 0] 32)) ((v1.alloc (.cells #[.int .u8 0, .int .u8 0, .int .u32 0, .int .u64 0, .int .u32 0, .slice none 0 0] 32)).setRow g7 (pgCs x A2 c2)) := (Turns.refl (only g7) _).setRow (g := g7) (.inl rfl) _
          have h3 := (h2.own hT (fun b hb => .inr (by have hb : b = g7 := hb; omega))).less (O' := O2) (fun b hb => .inl hb)
          have hlt1 : ∀ b, pyK gP O2 G b → b < v1.heap.size := fun b hb => h1.lt hb
          have hR3 : RowsAt O2 _ A x.rows := (Reads.below hR1 hba).turns hT (fun b hb => ⟨by have := hlt1 b (.inl hb); omega, fun e => by have e : b = g7 := e; have := hlt1 b (.inl hb); omega⟩)
          have hR4 : RowsAt G _ A2 x.rows := (Reads.below hRx hba).turns hT (fun b hb => ⟨by have := hlt1 b (.inr (.inl hb)); omega, fun e => by have e : b = g7 := e; have := hlt1 b (.inr (.inl hb)); omega⟩)
          have hB9 : Blk _ g7 32 (pgCs x A2 c2) := hB5.setRow (pgCs x A2 c2)
          have hgbn : gb ≠ g7 := by have := hB1.lt; omega
          have hg5n : g5 ≠ g7 := by have := hB2.lt; omega
          have hB8 : Blk _ g5 32 (pgCs x A c) := (hB2.below hba hB2.lt).turns hT (fun e => hg5n e)
          have hS9 := Lib.hid (HSO.out _ h3.play ((hB1.below hba hB1.lt).turns hT (fun e => hgbn e)))
          have hkf : Kept (pyK gP O2 G) wc.drew ((v1.alloc (.cells #[.int .u8 0, .int .u8 0, .int .u32 0, .int .u64 0, .int .u32 0, .slice none 0 0] 32)).setRow g7 (pgCs x A2 c2)) := (k1.trans (Kept.of_below hba hlt1)).trans ⟨rfl, rfl, rfl, Nat.le_of_eq (by simp [World.setRow]), fun b hb => heap_setRow_other _ _ _ _ (fun e => by have := hlt1 b hb; omega)⟩
          refine R_store 11 (n := .skip) (w' := (v1.alloc (.cells #[.int .u8 0, .int .u8 0, .int .u32 0, .int .u64 0, .int .u32 0, .slice none 0 0] 32)).setRow g7 (pgCs x A2 c2)) rfl rfl (by rfl) (by kernel_rfl) (run_op_store _ _ _ ⟨g7, 0, none⟩ (.agg (pgCs x A2 c2)) rfl rfl rfl (run_storeVar_part _ _ 0 _ _ #[.int .u8 0, .int .u8 0, .int .u32 0, .int .u64 0, .int .u32 0, .slice none 0 0] (pgCs x A2 c2) hB5 pgr_size (by show 0 + 6 ≤ 6; omega) (by simp [Value.oneCell']))) (.inl rfl) (fun _ => hS9.out) ?_
          refine R_tk 12 8 hS9.out ?_
          simp only [zSA, zSB, zSC]
          have HF := Lib.hid (And.intro hB9 (And.intro hB8 (And.intro hR3 (And.intro hR4 (And.intro h3 hkf)))))
          clear hS hS1 hS2 hS9 h1 h2 h3 k1 hB1 hB2 hB5 hB8 hB9 hR1 hR3 hR4 hT hRx hkf hba hlt1
          refine R_done (by kernel_rfl) ?_ _
          refine hK8 _ _ ?_
          clear hK8
          go_meet
          case rel => exact ⟨g7, c2, A2, rfl, rfl, HF.out.1, HF.out.2.1, HF.out.2.2.1, HF.out.2.2.2.1, HF.out.2.2.2.2.1, HF.out.2.2.2.2.2⟩
        · skip
          have hba := (Below.refl wc.heap.size wc).drew.alloc (Nat.le_refl _) (.cells #[.int .u8 0, .int .u8 0, .int .u32 0, .int .u64 0, .int .u32 0, .slice none 0 0] 32)
          have hB5 := Blk.new wc.drew 32 #[.int .u8 0, .int .u8 0, .int .u32 0, .int .u64 0, .int .u32 0, .slice none 0 0]
          have h0 := H5.out.below hba
          have hsa : wc.heap.size < (wc.drew.alloc (.cells #[.int .u8 0, .int .u8 0, .int .u32 0, .int .u64 0, .int .u32 0, .slice none 0 0] 32)).heap.size := hB5.lt
          obtain ⟨g7, hg7⟩ : ∃ g, g = wc.heap.size := ⟨_, rfl⟩
          have hBb := HBB.out.below hba HBB.out.lt
          have hB0 := HB5.out.below hba HB5.out.lt
          have hR0 := Reads.below HR5.out hba
          have hS1 := Lib.hid (HSO.out _ h0.play hBb)
          refine op_run 7 (v := ptr wc.heap.size) (w' := wc.drew.alloc (.cells #[.int .u8 0, .int .u8 0, .int .u32 0, .int .u64 0, .int .u32 0, .slice none 0 0] 32)) rfl rfl (by rfl) ?_ ⟨fun _ => hS1.out, ?_⟩
          · first | (go_simp; done) | (go_simp; rfl)
          simp only [zSA, zSB, zSC]
          have hgw : wc.drew.heap.size = wc.heap.size := rfl
          rw [hgw, ← hg7] at hB5
          rw [← hg7]
          refine R_call 6 33 (w' := wc.drew.alloc (.cells #[.int .u8 0, .int .u8 0, .int .u32 0, .int .u64 0, .int .u32 0, .slice none 0 0] 32)) rfl rfl (by rfl) (by kernel_rfl) ?_ (py_pinR h0 HOK.out hpg) ?_
          · go_simp
          rintro e v1 ⟨x, A2, c2, rfl, hx, hRx, h1, k1⟩
          have hxy : x = y := by rw [HY.out, hx]
          clear hx
          subst hxy
          rw [← HN.out]
          have hB1 := hBb.keep (k1.block gb (.inl (.inl hgbO2)))
          have hB2 : Blk v1 g5 32 (pgCs x A c) := hB0.keep (k1.block g5 (.inl (.inl hO5)))
          have hR1 : RowsAt O2 v1 A x.rows := hR0.keep k1.size (fun b hb => k1.block b (.inl (.inl hb)))
          have hB6 := hB5.keep (k1.block g7 (.inl (.inr (by omega))))
          have hS2 := Lib.hid (HSO.out v1 h1.play hB1)
          refine ⟨_, rfl, fun _ => hS2.out, ?_⟩
          simp only [zSA, zSB, zSC]
          refine R_tk 7 26 hS2.out ?_
          simp only [zSA, zSB, zSC]
          refine R_tk 8 34 hS2.out ?_
          simp only [zSA, zSB, zSC]
          refine R_tk 9 35 hS2.out ?_
          simp only [zSA, zSB, zSC]
          have hT : Turns (only g7) (only g7) v1 (v1.setRow g7 (pgCs x A2 c2)) := (Turns.refl (only g7) _).setRow (g := g7) (.inl rfl) _
          have h3 := (h1.own hT (fun b hb => by have hb : b = g7 := hb; exact .inr (by omega))).less (O' := O2) (fun b hb => .inl hb)
          have hlt1 : ∀ b, pyK gP O2 G b → b < wc.heap.size := fun b hb => H5.out.lt hb
          have hlv : wc.heap.size ≤ v1.heap.size := by have := k1.size; omega
          have hR3 : RowsAt O2 _ A x.rows := hR1.turns hT (fun b hb => ⟨by have := hlt1 b (.inl hb); omega, fun e => by have e : b = g7 := e; have := hlt1 b (.inl hb); omega⟩)
          have hR4 : RowsAt G _ A2 x.rows := hRx.turns hT (fun b hb => ⟨by have := hlt1 b (.inr (.inl hb)); omega, fun e => by have e : b = g7 := e; have := hlt1 b (.inr (.inl hb)); omega⟩)
          have hB9 : Blk _ g7 32 (pgCs x A2 c2) := hB6.setRow (pgCs x A2 c2)
          have hgbn : gb ≠ g7 := by have := HBB.out.lt; omega
          have hg5n : g5 ≠ g7 := by have := HB5.out.lt; omega
          have hB8 : Blk _ g5 32 (pgCs x A c) := hB2.turns hT (fun e => hg5n e)
          have hS9 := Lib.hid (HSO.out _ h3.play (hB1.turns hT (fun e => hgbn e)))
          have hkf : Kept (pyK gP O2 G) wc.drew (v1.setRow g7 (pgCs x A2 c2)) := ((Kept.of_below (w := wc.drew) (K := pyK gP O2 G) ((Below.refl wc.heap.size wc.drew).alloc (Nat.le_refl _) (.cells #[.int .u8 0, .int .u8 0, .int .u32 0, .int .u64 0, .int .u32 0, .slice none 0 0] 32)) (fun b hb => hlt1 b hb)).trans (k1.mono (fun b hb => hb.imp (fun e => .inl e) id))).trans ⟨rfl, rfl, rfl, Nat.le_of_eq (by simp [World.setRow]), fun b hb => heap_setRow_other _ _ _ _ (fun e => by have := hlt1 b hb; omega)⟩
          refine R_store 11 (n := .skip) (w' := v1.setRow g7 (pgCs x A2 c2)) rfl rfl (by rfl) (by kernel_rfl) (run_op_store _ _ _ ⟨g7, 0, none⟩ (.agg (pgCs x A2 c2)) rfl rfl rfl (run_storeVar_part _ _ 0 _ _ #[.int .u8 0, .int .u8 0, .int .u32 0, .int .u64 0, .int .u32 0, .slice none 0 0] (pgCs x A2 c2) hB6 pgr_size (by show 0 + 6 ≤ 6; omega) (by simp [Value.oneCell']))) (.inl rfl) (fun _ => hS9.out) ?_
          refine R_tk 12 8 hS9.out ?_
          simp only [zSA, zSB, zSC]
          have HF := Lib.hid (And.intro hB9 (And.intro hB8 (And.intro hR3 (And.intro hR4 (And.intro h3 hkf)))))
          clear hS hS1 hS2 hS9 h0 h1 h3 k1 hB1 hB2 hB0 hR0 hB5 hB6 hBb hB8 hB9 hR1 hR3 hR4 hT hRx hkf hba hlt1
          refine R_done (by kernel_rfl) ?_ _
          refine hK8 _ _ ?_
          clear hK8
          go_meet
          case rel => exact ⟨g7, c2, A2, rfl, rfl, HF.out.1, HF.out.2.1, HF.out.2.2.1, HF.out.2.2.2.1, HF.out.2.2.2.2.1, HF.out.2.2.2.2.2⟩
      case rest =>
        rename_i K8 hK8
        refine hK8 _ _ ?_
        clear hK8
        obtain ⟨g7, c2, A2, rfl, rfl, hB7, hB8, hR8, hR7, h8, k8⟩ := hcut
        have k9 : Kept (pyK gP (fun b => O b ∨ (w.heap.size ≤ b ∧ b < w1.heap.size)) G) _ _ := k8.mono (fun b hb => hb.imp (fun e => HO12.out b e) id)
        have hkw : Kept (pyK gP O G) w wc := HKW.out _ (HK5.out.trans ⟨k9.os, k9.tape, k9.output, k9.size, k9.block⟩)
        have HSM := Lib.hid (ref06_same (c := c) (c' := c2) hR8 hR7 (by omega))
        have u0 := hB8.cell 0
        have u1 := hB8.cell 1
        have u2 := hB8.cell 2
        have u3 := hB8.cell 3
        have u4 := hB8.cell 4
        have u5 := hB8.cell 5
        have z0 := hB7.cell 0
        have z1 := hB7.cell 1
        have z2 := hB7.cell 2
        have z3 := hB7.cell 3
        have z4 := hB7.cell 4
        have z5 := hB7.cell 5
        simp only [zGA, zGB, zGC] at u0 u1 u2 u3 u4 u5 z0 z1 z2 z3 z4 z5
        have H8 := Lib.hid h8
        have HKF := Lib.hid hkw
        clear hB7 hB8 hR8 hR7 h8 k8 k9 hkw
        go_wp2_with fail
        refine HSM.out.mono ?_
        rintro e w9 ⟨rfl, hb9⟩
        have HF := Lib.hid (And.intro (H8.out.below hb9) (HKF.out.trans (Kept.of_below hb9 (fun b hb => by
          rcases hb with e | e | e
          · exact H8.out.lt (.inl (HO12.out b (.inl e)))
          · exact H8.out.lt (.inr (.inl e))
          · exact H8.out.lt (.inr (.inr e))))))
        clear u0 u1 u2 u3 u4 u5 z0 z1 z2 z3 z4 z5 hb9 HSM
        go_wp2_with fail
        go_ret
        exact ⟨rfl, G, l2, _, fun b hb => hb, HF.out.1.less (fun b hb => .inl (HO12.out b (.inl hb))), Sp.pin_le hle a.page, Sp.pin_frames s a.page, by rw [← HLF.out], by rw [← HLF.out], by rw [← HLF.out]; show l.next ≤ _; omega, HF.out.2⟩
  · have d7 : (a.do_ : Int) % 7 = 1 := by omega
    have HPGC := Lib.hid (law15_page HS1.out (AP := AP) (cP := cP) hN HR.out)
    have c1 := HB1.out.cell 1
    have c2 := HB1.out.cell 2
    have c3 := HB1.out.cell 3
    have c4 := HB1.out.cell 4
    have c5 := HB1.out.cell 5
    have c6 := HB1.out.cell 6
    have c7 := HB1.out.cell 7
    have c8 := HB1.out.cell 8
    have c9 := HB1.out.cell 9
    have c10 := HB1.out.cell 10
    simp only [PAct.cs, zGA, zGB, zGC] at c1 c2 c3 c4 c5 c6 c7 c8 c9 c10
    obtain ⟨y, hy⟩ : ∃ y, y = a.pg l.next := ⟨_, rfl⟩
    rw [← hy] at HPGC
    obtain ⟨hyw, hyl, hyt⟩ := PAct.pg_ok (n := l.next) hpg hxw (by omega) hrow hxr hxt
    rw [← hy] at hyw hyl hyt
    have HYW := Lib.hid hyw
    clear hy hyw
    go_wp2_with fail
    refine HPGC.out.mono ?_
    rintro e wp ⟨A, c, rfl, hNA, hRA, hbp⟩
    clear c0 c1 c2 c3 c4 c5 c6 c7 c8 c9 c10 HPGC
    have HNA := Lib.hid hNA
    have HRA := Lib.hid hRA
    have HBP := Lib.hid hbp
    clear hNA hRA hbp
    go_wp2_with fail
    generalize hw3 : World.alloc wp _ = w3
    have hba : Below wp.heap.size wp w3 := by rw [← hw3]; exact (Below.refl _ _).alloc (Nat.le_refl _) _
    have hB9 : Blk w3 wp.heap.size 32 (pgCs y A c) := by rw [← hw3]; exact Blk.new _ _ _
    have hb13 := HBP.out.trans (hba.mono HBP.out.size)
    have h3 := HS1.out.below hb13
    have hsp := HBP.out.size
    have hs3 := hB9.lt
    have hRp : RowsAt (fun b => G b ∨ (w1.heap.size ≤ b ∧ b < wp.heap.size ∧ rowK A y.rows.length b)) wp A y.rows := ⟨HRA.out.1, fun hn => by
      obtain ⟨b, o, e, hG, hlt, hc⟩ := HRA.out.2 hn
      exact ⟨b, o, e, hG.imp id (fun h => ⟨h, hlt, hn, o, e⟩), hlt, hc⟩⟩
    have h4 := h3.rows (O' := fun b => (O b ∨ (w.heap.size ≤ b ∧ b < w1.heap.size)) ∨ b = wp.heap.size) (G' := fun b => G b ∨ (w1.heap.size ≤ b ∧ b < wp.heap.size ∧ rowK A y.rows.length b)) (fun b hb => by
      rcases hb with hb | hb
      · have hl := HS1.out.lt (.inl hb)
        exact ⟨.inl hb, fun e => e.elim (fun e => HS1.out.OG hb e) (fun e => by omega)⟩
      · subst hb
        exact ⟨.inr ⟨hsp, hs3⟩, fun e => e.elim (fun e => by have := HS1.out.lt (.inr (.inl e)); omega) (fun e => by omega)⟩) (fun b hb => .inl hb) (fun b hb => hb.imp id (fun e => .inr ⟨e.1, by omega⟩))
    have HR3 := Lib.hid (Reads.below hRp hba)
    have H4 := Lib.hid h4
    have HB9 := Lib.hid hB9
    have HB13 := Lib.hid hb13
    obtain ⟨g9, hg9⟩ : ∃ g9, g9 = wp.heap.size := ⟨_, rfl⟩
    generalize hGG : (fun b => G b ∨ (w1.heap.size ≤ b ∧ b < wp.heap.size ∧ rowK A y.rows.length b)) = G2 at *
    have hG2 : ∀ b, G b → G2 b := fun b hb => by rw [← hGG]; exact .inl hb
    rw [← hg9] at HB9 H4 ⊢
    clear hw3 hGG hg9 h3 h4 hba hB9 hb13 hRp HRA hsp hs3
    have hSof : ∀ (W : World), Blk W gP 44 #[ptr gd, ptr gl, ptr gp, ptr gr] → Blk W g9 32 (pgCs y A c) → W.cell? ⟨gP, 2, none⟩ = some (ptr gp) ∧ W.cell? ⟨gP, 3, none⟩ = some (ptr gr) ∧ W.cell? ⟨g9, 0, none⟩ = some (.int .u8 y.kind) ∧ W.cell? ⟨g9, 1, none⟩ = some (.int .u8 y.level) ∧ W.cell? ⟨g9, 2, none⟩ = some (.int .u32 y.id) ∧ W.cell? ⟨g9, 3, none⟩ = some (.int .u64 y.lsn) ∧ W.cell? ⟨g9, 4, none⟩ = some (.int .u32 y.next) ∧ W.cell? ⟨g9, 5, none⟩ = some (.slice A y.rows.length c) := fun W h1 h2 => ⟨(h1.cell 2).trans rfl, (h1.cell 3).trans rfl, (h2.cell 0).trans rfl, (h2.cell 1).trans rfl, (h2.cell 2).trans rfl, (h2.cell 3).trans rfl, (h2.cell 4).trans rfl, (h2.cell 5).trans rfl⟩
    have hS := Lib.hid (hSof w3.drew H4.out.play.drew HB9.out.drew)
    refine R_begin (fun (W : World) => W.cell? ⟨gP, 2, none⟩ = some (ptr gp) ∧ W.cell? ⟨gP, 3, none⟩ = some (ptr gr) ∧ W.cell? ⟨g9, 0, none⟩ = some (.int .u8 y.kind) ∧ W.cell? ⟨g9, 1, none⟩ = some (.int .u8 y.level) ∧ W.cell? ⟨g9, 2, none⟩ = some (.int .u32 y.id) ∧ W.cell? ⟨g9, 3, none⟩ = some (.int .u64 y.lsn) ∧ W.cell? ⟨g9, 4, none⟩ = some (.int .u32 y.next) ∧ W.cell? ⟨g9, 5, none⟩ = some (.slice A y.rows.length c)) (fun _ => false) rfl ?_
    refine R_tk 0 49 hS.out ?_
    simp only [zSA, zSB, zSC]
    refine R_tk 1 50 hS.out ?_
    simp only [zSA, zSB, zSC]
    refine R_tk 2 51 hS.out ?_
    simp only [zSA, zSB, zSC]
    refine R_tk 3 52 hS.out ?_
    simp only [zSA, zSB, zSC]
    refine R_tk 4 53 hS.out ?_
    simp only [zSA, zSB, zSC]
    refine R_tk 7 56 hS.out ?_
    simp only [zSA, zSB, zSC]
    refine R_tk 8 57 hS.out ?_
    simp only [zSA, zSB, zSC]
    refine R_tk 9 58 hS.out ?_
    simp only [zSA, zSB, zSC]
    refine R_tk 10 59 hS.out ?_
    simp only [zSA, zSB, zSC]
    refine R_tk 11 60 hS.out ?_
    simp only [zSA, zSB, zSC]
    refine R_call 5 54 (w' := w3.drew) rfl rfl (by rfl) (by kernel_rfl) ?_ (law15_copied HNA.out (Reads.below HR3.out (Below.refl w3.heap.size w3).drew) (by omega)) ?_
    · go_simp
    rintro e v1 ⟨A2, c2, rfl, hA2, hR2, hb2⟩
    have h5 := H4.out.drew.below hb2
    have hB5 := HB9.out.drew.below hb2 HB9.out.lt
    have hS1 := Lib.hid (hSof v1 h5.play hB5)
    refine ⟨_, rfl, fun _ => hS1.out, ?_⟩
    simp only [zSA, zSB, zSC]
    refine R_call 6 55 (w' := v1) rfl rfl (by rfl) (by kernel_rfl) ?_ (py_putP (c := c2) h5 HYW.out hA2 hR2 (by omega) (by omega)) ?_
    · go_simp
    rintro e v2 ⟨rfl, h6, k6⟩
    have hB6 := hB5.keep (k6.block g9 (.inl (.inl (.inr rfl))))
    have hS2 := Lib.hid (hSof v2 h6.play hB6)
    refine ⟨_, rfl, fun _ => hS2.out, ?_⟩
    simp only [zSA, zSB, zSC]
    have hR6 := (Reads.below (Reads.below HR3.out (Below.refl w3.heap.size w3).drew) hb2).keep k6.size (fun b hb => k6.block b (.inr (.inl hb)))
    refine R_call 12 61 (w' := v2) rfl rfl (by rfl) (by kernel_rfl) ?_ (py_putR (c := c) h6 hR6 (by omega) (by omega)) ?_
    · go_simp
    rintro e v3 ⟨rfl, h7, k7⟩
    have hB7 := hB6.keep (k7.block g9 (.inl (.inl (.inr rfl))))
    have hS3 := Lib.hid (hSof v3 h7.play hB7)
    refine ⟨_, rfl, fun _ => hS3.out, ?_⟩
    simp only [zSA, zSB, zSC]
    refine R_tk 13 62 hS3.out ?_
    simp only [zSA, zSB, zSC]
    refine R_tk 14 4 hS3.out ?_
    simp only [zSA, zSB, zSC]
    have hbw : Below w.heap.size w v1 := HBW.out.trans ((HB13.out.trans (((Below.refl w3.heap.size w3).drew.trans hb2).mono HB13.out.size)).mono HBW.out.size)
    have hkk : ∀ b, pyK gP O G b → pyK gP (fun b => ((O b ∨ (w.heap.size ≤ b ∧ b < w1.heap.size)) ∨ b = g9) ∨ (w3.drew.heap.size ≤ b ∧ b < v1.heap.size)) G2 b := fun b hb => by
      rcases hb with e | e | e
      · exact .inl (.inl (.inl (.inl e)))
      · exact .inr (.inl (hG2 b e))
      · exact .inr (.inr e)
    have HF := Lib.hid (And.intro h7 ((HKB.out v1 hbw).trans ((k6.trans k7).mono hkk)))
    clear h5 h6 h7 k6 k7 hB5 hB6 hB7 hS hS1 hS2 hS3 hSof hb2 hR2 hR6 hkk hbw
    refine R_done (by kernel_rfl) ?_ _
    rename_i K9 hK9
    refine hK9 _ _ ?_
    clear hK9
    go_wp2_with fail
    go_ret
    exact ⟨rfl, G2, _, _, hG2, HF.out.1.less (fun b hb => .inl (.inl (.inl hb))), Sp.R15.le.up (Sp.put_le hle y (mayB y)) (by omega), Sp.put_frames s y (mayB y), rfl, rfl, by show l.next ≤ _; omega, HF.out.2⟩
  · have d7 : (a.do_ : Int) % 7 = 2 := by omega
    go_wp2_with fail
    have hSof : ∀ (W : World), Blk W gP 44 #[ptr gd, ptr gl, ptr gp, ptr gr] → Blk W gb 35 (a.cs AX cX AP cP) → W.cell? ⟨gP, 2, none⟩ = some (ptr gp) ∧ W.cell? ⟨gP, 3, none⟩ = some (ptr gr) ∧ W.cell? ⟨gb, 1, none⟩ = some (.int .u32 a.page) := fun W h1 h2 => ⟨(h1.cell 2).trans rfl, (h1.cell 3).trans rfl, (h2.cell 1).trans rfl⟩
    have hS := Lib.hid (hSof w1.drew HS1.out.play.drew HB1.out.drew)
    refine R_begin (fun (W : World) => W.cell? ⟨gP, 2, none⟩ = some (ptr gp) ∧ W.cell? ⟨gP, 3, none⟩ = some (ptr gr) ∧ W.cell? ⟨gb, 1, none⟩ = some (.int .u32 a.page)) (fun _ => false) rfl ?_
    refine R_tk 0 65 hS.out ?_
    simp only [zSA, zSB, zSC]
    refine R_tk 1 66 hS.out ?_
    simp only [zSA, zSB, zSC]
    refine R_tk 2 67 hS.out ?_
    simp only [zSA, zSB, zSC]
    refine R_tk 3 68 hS.out ?_
    simp only [zSA, zSB, zSC]
    refine R_tk 4 69 hS.out ?_
    simp only [zSA, zSB, zSC]
    refine R_tk 5 70 hS.out ?_
    simp only [zSA, zSB, zSC]
    refine R_tk 7 72 hS.out ?_
    simp only [zSA, zSB, zSC]
    refine R_tk 8 73 hS.out ?_
    simp only [zSA, zSB, zSC]
    refine R_tk 9 74 hS.out ?_
    simp only [zSA, zSB, zSC]
    refine R_tk 10 75 hS.out ?_
    simp only [zSA, zSB, zSC]
    refine R_tk 11 76 hS.out ?_
    simp only [zSA, zSB, zSC]
    refine R_tk 12 77 hS.out ?_
    simp only [zSA, zSB, zSC]
    refine R_call 6 71 (w' := w1.drew) rfl rfl (by rfl) (by kernel_rfl) ?_ (py_unpinP HS1.out.drew hpg) ?_
    · go_simp
    rintro e v1 ⟨rfl, h1, k1⟩
    have hB1 : Blk v1 gb 35 (a.cs AX cX AP cP) := HB1.out.drew.keep (k1.block gb (.inl hgbO))
    have hS1 := Lib.hid (hSof v1 h1.play hB1)
    refine ⟨_, rfl, fun _ => hS1.out, ?_⟩
    simp only [zSA, zSB, zSC]
    refine R_call 13 78 (w' := v1) rfl rfl (by rfl) (by kernel_rfl) ?_ (py_unpinR h1 hok a.page) ?_
    · go_simp
    rintro e v2 ⟨rfl, h2, k2⟩
    have hB2 : Blk v2 gb 35 (a.cs AX cX AP cP) := hB1.keep (k2.block gb (.inl hgbO))
    have hS2 := Lib.hid (hSof v2 h2.play hB2)
    refine ⟨_, rfl, fun _ => hS2.out, ?_⟩
    simp only [zSA, zSB, zSC]
    refine R_tk 14 79 hS2.out ?_
    simp only [zSA, zSB, zSC]
    refine R_tk 15 4 hS2.out ?_
    simp only [zSA, zSB, zSC]
    have HF := Lib.hid (And.intro h2 (k1.trans k2))
    clear h1 k1 h2 k2 hB1 hB2 hS hS1 hS2 hSof
    refine R_done (by kernel_rfl) ?_ _
    rename_i K9 hK9
    refine hK9 _ _ ?_
    clear hK9
    go_wp2_with fail
    go_ret
    exact ⟨rfl, G, _, _, fun b hb => hb, HF.out.1.less (fun b hb => .inl hb), Sp.R15.le.up (Sp.unpin_le hle a.page) (by omega), Sp.unpin_frames s a.page, rfl, rfl, by show l.next ≤ _; omega, HKW.out _ HF.out.2⟩
  · have d7 : (a.do_ : Int) % 7 = 3 := by omega
    go_wp2_with fail
    have hSof : ∀ (W : World), Blk W gP 44 #[ptr gd, ptr gl, ptr gp, ptr gr] → Blk W gb 35 (a.cs AX cX AP cP) → W.cell? ⟨gP, 2, none⟩ = some (ptr gp) ∧ W.cell? ⟨gP, 3, none⟩ = some (ptr gr) ∧ W.cell? ⟨gb, 10, none⟩ = some (.slice AP a.pages.length cP) := fun W h1 h2 => ⟨(h1.cell 2).trans rfl, (h1.cell 3).trans rfl, (h2.cell 10).trans rfl⟩
    have hS := Lib.hid (hSof w1.drew HS1.out.play.drew HB1.out.drew)
    refine R_begin (fun (W : World) => W.cell? ⟨gP, 2, none⟩ = some (ptr gp) ∧ W.cell? ⟨gP, 3, none⟩ = some (ptr gr) ∧ W.cell? ⟨gb, 10, none⟩ = some (.slice AP a.pages.length cP)) (fun _ => false) rfl ?_
    refine R_tk 0 82 hS.out ?_
    simp only [zSA, zSB, zSC]
    refine R_tk 1 83 hS.out ?_
    simp only [zSA, zSB, zSC]
    refine R_tk 2 84 hS.out ?_
    simp only [zSA, zSB, zSC]
    refine R_tk 3 85 hS.out ?_
    simp only [zSA, zSB, zSC]
    refine R_tk 4 86 hS.out ?_
    simp only [zSA, zSB, zSC]
    refine R_tk 5 87 hS.out ?_
    simp only [zSA, zSB, zSC]
    refine R_tk 8 90 hS.out ?_
    simp only [zSA, zSB, zSC]
    refine R_tk 9 91 hS.out ?_
    simp only [zSA, zSB, zSC]
    refine R_tk 10 92 hS.out ?_
    simp only [zSA, zSB, zSC]
    refine R_tk 11 93 hS.out ?_
    simp only [zSA, zSB, zSC]
    refine R_tk 12 94 hS.out ?_
    simp only [zSA, zSB, zSC]
    refine R_tk 13 95 hS.out ?_
    simp only [zSA, zSB, zSC]
    refine R_step 6 rfl (by rfl) (by kernel_rfl) ?_
    refine wp_copy_u32 _ rfl rfl hNP (Reads.below HRP.out (Below.refl w1.heap.size w1).drew) hpl ?_
    intro A1 c1 v1 hA1 hA0 hRc hb1
    have h1 := HS1.out.drew.below hb1
    have hB1 := HB1.out.drew.below hb1 HB1.out.lt
    have hS1 := Lib.hid (hSof v1 h1.play hB1)
    refine ⟨fun _ => hS1.out, ?_⟩
    refine R_put 88 rfl ?_
    simp only [zSA, zSB, zSC]
    refine R_call 7 89 (w' := v1) rfl rfl (by rfl) (by kernel_rfl) ?_ (py_flushP (c := c1) h1 (by omega) hA1 hA0 hRc hpp (by omega)) ?_
    · go_simp
    rintro e v2 ⟨rfl, h2, k2⟩
    have hB2 : Blk v2 gb 35 (a.cs AX cX AP cP) := hB1.keep (k2.block gb (.inl (.inl hgbO)))
    have hS2 := Lib.hid (hSof v2 h2.play hB2)
    refine ⟨_, rfl, fun _ => hS2.out, ?_⟩
    simp only [zSA, zSB, zSC]
    have hR2 := (Reads.below (Reads.below HRP.out (Below.refl w1.heap.size w1).drew) hb1).keep k2.size (fun b hb => k2.block b (.inr (.inl hb)))
    refine R_call 14 96 (w' := v2) rfl rfl (by rfl) (by kernel_rfl) ?_ (py_flushR (c := cP) h2 HOK.out hR2 (by omega)) ?_
    · go_simp
    rintro e v3 ⟨rfl, h3, k3⟩
    have hB3 : Blk v3 gb 35 (a.cs AX cX AP cP) := hB2.keep (k3.block gb (.inl (.inl hgbO)))
    have hS3 := Lib.hid (hSof v3 h3.play hB3)
    refine ⟨_, rfl, fun _ => hS3.out, ?_⟩
    simp only [zSA, zSB, zSC]
    refine R_tk 15 97 hS3.out ?_
    simp only [zSA, zSB, zSC]
    refine R_tk 16 4 hS3.out ?_
    simp only [zSA, zSB, zSC]
    have hbw : Below w.heap.size w v1 := HBW.out.trans (((Below.refl w1.heap.size w1).drew.trans hb1).mono HBW.out.size)
    have HF := Lib.hid (And.intro h3 ((HKB.out v1 hbw).trans ((k2.trans k3).mono (fun b hb => hb.imp (fun e => .inl (.inl e)) id))))
    clear h1 h2 h3 k2 k3 hB1 hB2 hB3 hS hS1 hS2 hS3 hSof hb1 hRc hR2 hbw
    refine R_done (by kernel_rfl) ?_ _
    rename_i K9 hK9
    refine hK9 _ _ ?_
    clear hK9
    go_wp2_with fail
    go_ret
    exact ⟨rfl, G, _, _, fun b hb => hb, HF.out.1.less (fun b hb => .inl (.inl hb)), Sp.R15.le.up (Sp.flush_le hle a.pages) (by omega), Sp.flush_frames s a.pages, rfl, rfl, by show l.next ≤ _; omega, HF.out.2⟩
  · have d7 : (a.do_ : Int) % 7 = 4 := by omega
    go_wp2_with fail
    have hSof : ∀ (W : World), Blk W gP 44 #[ptr gd, ptr gl, ptr gp, ptr gr] → Blk W gb 35 (a.cs AX cX AP cP) → W.cell? ⟨gP, 2, none⟩ = some (ptr gp) ∧ W.cell? ⟨gP, 3, none⟩ = some (ptr gr) ∧ W.cell? ⟨gb, 1, none⟩ = some (.int .u32 a.page) := fun W h1 h2 => ⟨(h1.cell 2).trans rfl, (h1.cell 3).trans rfl, (h2.cell 1).trans rfl⟩
    have hS := Lib.hid (hSof w1.drew HS1.out.play.drew HB1.out.drew)
    refine R_begin (fun (W : World) => W.cell? ⟨gP, 2, none⟩ = some (ptr gp) ∧ W.cell? ⟨gP, 3, none⟩ = some (ptr gr) ∧ W.cell? ⟨gb, 1, none⟩ = some (.int .u32 a.page)) (fun _ => false) rfl ?_
    refine R_tk 0 100 hS.out ?_
    simp only [zSA, zSB, zSC]
    refine R_tk 1 101 hS.out ?_
    simp only [zSA, zSB, zSC]
    refine R_tk 2 102 hS.out ?_
    simp only [zSA, zSB, zSC]
    refine R_tk 3 103 hS.out ?_
    simp only [zSA, zSB, zSC]
    refine R_tk 4 104 hS.out ?_
    simp only [zSA, zSB, zSC]
    refine R_tk 5 105 hS.out ?_
    simp only [zSA, zSB, zSC]
    refine R_tk 7 107 hS.out ?_
    simp only [zSA, zSB, zSC]
    refine R_tk 8 108 hS.out ?_
    simp only [zSA, zSB, zSC]
    refine R_tk 9 109 hS.out ?_
    simp only [zSA, zSB, zSC]
    refine R_tk 10 110 hS.out ?_
    simp only [zSA, zSB, zSC]
    refine R_tk 11 111 hS.out ?_
    simp only [zSA, zSB, zSC]
    refine R_tk 12 112 hS.out ?_
    simp only [zSA, zSB, zSC]
    refine R_call 6 106 (w' := w1.drew) rfl rfl (by rfl) (by kernel_rfl) ?_ (py_evictP HS1.out.drew hpg) ?_
    · go_simp
    rintro e v1 ⟨rfl, h1, k1⟩
    have hB1 : Blk v1 gb 35 (a.cs AX cX AP cP) := HB1.out.drew.keep (k1.block gb (.inl hgbO))
    have hS1 := Lib.hid (hSof v1 h1.play hB1)
    refine ⟨_, rfl, fun _ => hS1.out, ?_⟩
    simp only [zSA, zSB, zSC]
    refine R_call 13 113 (w' := v1) rfl rfl (by rfl) (by kernel_rfl) ?_ (py_evictR h1 hok a.page) ?_
    · go_simp
    rintro e v2 ⟨rfl, h2, k2⟩
    have hB2 : Blk v2 gb 35 (a.cs AX cX AP cP) := hB1.keep (k2.block gb (.inl hgbO))
    have hS2 := Lib.hid (hSof v2 h2.play hB2)
    refine ⟨_, rfl, fun _ => hS2.out, ?_⟩
    simp only [zSA, zSB, zSC]
    refine R_tk 14 114 hS2.out ?_
    simp only [zSA, zSB, zSC]
    refine R_tk 15 4 hS2.out ?_
    simp only [zSA, zSB, zSC]
    have HF := Lib.hid (And.intro h2 (k1.trans k2))
    clear h1 k1 h2 k2 hB1 hB2 hS hS1 hS2 hSof
    refine R_done (by kernel_rfl) ?_ _
    rename_i K9 hK9
    refine hK9 _ _ ?_
    clear hK9
    go_wp2_with fail
    go_ret
    exact ⟨rfl, G, _, _, fun b hb => hb, HF.out.1.less (fun b hb => .inl hb), Sp.R15.le.up (Sp.evict_le hle a.page) (by omega), Sp.evict_frames s a.page, rfl, rfl, by show l.next ≤ _; omega, HKW.out _ HF.out.2⟩
  · have d7 : (a.do_ : Int) % 7 = 5 := by omega
    have HPGC := Lib.hid (law15_page HS1.out (AP := AP) (cP := cP) hN HR.out)
    have c1 := HB1.out.cell 1
    have c2 := HB1.out.cell 2
    have c3 := HB1.out.cell 3
    have c4 := HB1.out.cell 4
    have c5 := HB1.out.cell 5
    have c6 := HB1.out.cell 6
    have c7 := HB1.out.cell 7
    have c8 := HB1.out.cell 8
    have c9 := HB1.out.cell 9
    have c10 := HB1.out.cell 10
    simp only [PAct.cs, zGA, zGB, zGC] at c1 c2 c3 c4 c5 c6 c7 c8 c9 c10
    obtain ⟨y, hy⟩ : ∃ y, y = a.pg l.next := ⟨_, rfl⟩
    rw [← hy] at HPGC
    obtain ⟨hyw, hyl, hyt⟩ := PAct.pg_ok (n := l.next) hpg hxw (by omega) hrow hxr hxt
    rw [← hy] at hyw hyl hyt
    have HYW := Lib.hid hyw
    clear hy hyw
    go_wp2_with fail
    refine HPGC.out.mono ?_
    rintro e wp ⟨A, c, rfl, hNA, hRA, hbp⟩
    clear c0 c1 c2 c3 c4 c5 c6 c7 c8 c9 c10 HPGC
    have HNA := Lib.hid hNA
    have HRA := Lib.hid hRA
    have HBP := Lib.hid hbp
    clear hNA hRA hbp
    go_wp2_with fail
    generalize hw3 : World.alloc wp _ = w3
    have hba : Below wp.heap.size wp w3 := by rw [← hw3]; exact (Below.refl _ _).alloc (Nat.le_refl _) _
    have hB9 : Blk w3 wp.heap.size 32 (pgCs y A c) := by rw [← hw3]; exact Blk.new _ _ _
    have hb13 := HBP.out.trans (hba.mono HBP.out.size)
    have h3 := HS1.out.below hb13
    have hsp := HBP.out.size
    have hs3 := hB9.lt
    have hRp : RowsAt (fun b => G b ∨ (w1.heap.size ≤ b ∧ b < wp.heap.size ∧ rowK A y.rows.length b)) wp A y.rows := ⟨HRA.out.1, fun hn => by
      obtain ⟨b, o, e, hG, hlt, hc⟩ := HRA.out.2 hn
      exact ⟨b, o, e, hG.imp id (fun h => ⟨h, hlt, hn, o, e⟩), hlt, hc⟩⟩
    have h4 := h3.rows (O' := fun b => (O b ∨ (w.heap.size ≤ b ∧ b < w1.heap.size)) ∨ b = wp.heap.size) (G' := fun b => G b ∨ (w1.heap.size ≤ b ∧ b < wp.heap.size ∧ rowK A y.rows.length b)) (fun b hb => by
      rcases hb with hb | hb
      · have hl := HS1.out.lt (.inl hb)
        exact ⟨.inl hb, fun e => e.elim (fun e => HS1.out.OG hb e) (fun e => by omega)⟩
      · subst hb
        exact ⟨.inr ⟨hsp, hs3⟩, fun e => e.elim (fun e => by have := HS1.out.lt (.inr (.inl e)); omega) (fun e => by omega)⟩) (fun b hb => .inl hb) (fun b hb => hb.imp id (fun e => .inr ⟨e.1, by omega⟩))
    have HR3 := Lib.hid (Reads.below hRp hba)
    have H4 := Lib.hid h4
    have HB9 := Lib.hid hB9
    have HB13 := Lib.hid hb13
    obtain ⟨g9, hg9⟩ : ∃ g9, g9 = wp.heap.size := ⟨_, rfl⟩
    generalize hGG : (fun b => G b ∨ (w1.heap.size ≤ b ∧ b < wp.heap.size ∧ rowK A y.rows.length b)) = G2 at *
    have hG2 : ∀ b, G b → G2 b := fun b hb => by rw [← hGG]; exact .inl hb
    rw [← hg9] at HB9 H4 ⊢
    clear hw3 hGG hg9 h3 h4 hba hB9 hb13 hRp HRA hsp hs3
    have hSof : ∀ (W : World), Blk W gP 44 #[ptr gd, ptr gl, ptr gp, ptr gr] → Blk W g9 32 (pgCs y A c) → W.cell? ⟨gP, 2, none⟩ = some (ptr gp) ∧ W.cell? ⟨gP, 3, none⟩ = some (ptr gr) ∧ W.cell? ⟨g9, 0, none⟩ = some (.int .u8 y.kind) ∧ W.cell? ⟨g9, 1, none⟩ = some (.int .u8 y.level) ∧ W.cell? ⟨g9, 2, none⟩ = some (.int .u32 y.id) ∧ W.cell? ⟨g9, 3, none⟩ = some (.int .u64 y.lsn) ∧ W.cell? ⟨g9, 4, none⟩ = some (.int .u32 y.next) ∧ W.cell? ⟨g9, 5, none⟩ = some (.slice A y.rows.length c) := fun W h1 h2 => ⟨(h1.cell 2).trans rfl, (h1.cell 3).trans rfl, (h2.cell 0).trans rfl, (h2.cell 1).trans rfl, (h2.cell 2).trans rfl, (h2.cell 3).trans rfl, (h2.cell 4).trans rfl, (h2.cell 5).trans rfl⟩
    have hS := Lib.hid (hSof w3.drew H4.out.play.drew HB9.out.drew)
    refine R_begin (fun (W : World) => W.cell? ⟨gP, 2, none⟩ = some (ptr gp) ∧ W.cell? ⟨gP, 3, none⟩ = some (ptr gr) ∧ W.cell? ⟨g9, 0, none⟩ = some (.int .u8 y.kind) ∧ W.cell? ⟨g9, 1, none⟩ = some (.int .u8 y.level) ∧ W.cell? ⟨g9, 2, none⟩ = some (.int .u32 y.id) ∧ W.cell? ⟨g9, 3, none⟩ = some (.int .u64 y.lsn) ∧ W.cell? ⟨g9, 4, none⟩ = some (.int .u32 y.next) ∧ W.cell? ⟨g9, 5, none⟩ = some (.slice A y.rows.length c)) (fun _ => false) rfl ?_
    refine R_tk 0 120 hS.out ?_
    simp only [zSA, zSB, zSC]
    refine R_tk 1 121 hS.out ?_
    simp only [zSA, zSB, zSC]
    refine R_tk 2 122 hS.out ?_
    simp only [zSA, zSB, zSC]
    refine R_tk 3 123 hS.out ?_
    simp only [zSA, zSB, zSC]
    refine R_tk 4 124 hS.out ?_
    simp only [zSA, zSB, zSC]
    refine R_tk 7 127 hS.out ?_
    simp only [zSA, zSB, zSC]
    refine R_tk 8 128 hS.out ?_
    simp only [zSA, zSB, zSC]
    refine R_tk 9 129 hS.out ?_
    simp only [zSA, zSB, zSC]
    refine R_tk 10 130 hS.out ?_
    simp only [zSA, zSB, zSC]
    refine R_tk 11 131 hS.out ?_
    simp only [zSA, zSB, zSC]
    refine R_call 5 125 (w' := w3.drew) rfl rfl (by rfl) (by kernel_rfl) ?_ (law15_copied HNA.out (Reads.below HR3.out (Below.refl w3.heap.size w3).drew) (by omega)) ?_
    · go_simp
    rintro e v1 ⟨A2, c2, rfl, hA2, hR2, hb2⟩
    have h5 := H4.out.drew.below hb2
    have hB5 := HB9.out.drew.below hb2 HB9.out.lt
    have hS1 := Lib.hid (hSof v1 h5.play hB5)
    refine ⟨_, rfl, fun _ => hS1.out, ?_⟩
    simp only [zSA, zSB, zSC]
    refine R_call 6 126 (w' := v1) rfl rfl (by rfl) (by kernel_rfl) ?_ (py_freshP (c := c2) h5 HYW.out hA2 hR2 (by omega) (by omega)) ?_
    · go_simp
    rintro e v2 ⟨rfl, h6, k6⟩
    have hB6 := hB5.keep (k6.block g9 (.inl (.inl (.inr rfl))))
    have hS2 := Lib.hid (hSof v2 h6.play hB6)
    refine ⟨_, rfl, fun _ => hS2.out, ?_⟩
    simp only [zSA, zSB, zSC]
    have hR6 := (Reads.below (Reads.below HR3.out (Below.refl w3.heap.size w3).drew) hb2).keep k6.size (fun b hb => k6.block b (.inr (.inl hb)))
    refine R_call 12 132 (w' := v2) rfl rfl (by rfl) (by kernel_rfl) ?_ (py_freshR (c := c) h6 HOK.out HYW.out hR6 (by omega) (by omega)) ?_
    · go_simp
    rintro e v3 ⟨rfl, h7, k7⟩
    have hB7 := hB6.keep (k7.block g9 (.inl (.inl (.inr rfl))))
    have hS3 := Lib.hid (hSof v3 h7.play hB7)
    refine ⟨_, rfl, fun _ => hS3.out, ?_⟩
    simp only [zSA, zSB, zSC]
    refine R_tk 13 133 hS3.out ?_
    simp only [zSA, zSB, zSC]
    refine R_tk 14 4 hS3.out ?_
    simp only [zSA, zSB, zSC]
    have hbw : Below w.heap.size w v1 := HBW.out.trans ((HB13.out.trans (((Below.refl w3.heap.size w3).drew.trans hb2).mono HB13.out.size)).mono HBW.out.size)
    have hkk : ∀ b, pyK gP O G b → pyK gP (fun b => ((O b ∨ (w.heap.size ≤ b ∧ b < w1.heap.size)) ∨ b = g9) ∨ (w3.drew.heap.size ≤ b ∧ b < v1.heap.size)) G2 b := fun b hb => by
      rcases hb with e | e | e
      · exact .inl (.inl (.inl (.inl e)))
      · exact .inr (.inl (hG2 b e))
      · exact .inr (.inr e)
    have HF := Lib.hid (And.intro h7 ((HKB.out v1 hbw).trans ((k6.trans k7).mono hkk)))
    clear h5 h6 h7 k6 k7 hB5 hB6 hB7 hS hS1 hS2 hS3 hSof hb2 hR2 hR6 hkk hbw
    refine R_done (by kernel_rfl) ?_ _
    rename_i K9 hK9
    refine hK9 _ _ ?_
    clear hK9
    go_wp2_with fail
    go_ret
    exact ⟨rfl, G2, _, _, hG2, HF.out.1.less (fun b hb => .inl (.inl (.inl hb))), Sp.R15.le.up (Sp.fresh_le hle y (mayB y)) (by omega), Sp.fresh_frames s y (mayB y), rfl, rfl, by show l.next ≤ _; omega, HF.out.2⟩
  · have d7 : (a.do_ : Int) % 7 = 6 := by omega
    go_wp2_with fail
    have hSof : ∀ (W : World), Blk W gP 44 #[ptr gd, ptr gl, ptr gp, ptr gr] → Blk W gb 35 (a.cs AX cX AP cP) → W.cell? ⟨gP, 2, none⟩ = some (ptr gp) ∧ W.cell? ⟨gP, 3, none⟩ = some (ptr gr) ∧ W.cell? ⟨gP, 1, none⟩ = some (ptr gl) ∧ W.cell? ⟨gb, 9, none⟩ = some (str a.row) := fun W h1 h2 => ⟨(h1.cell 2).trans rfl, (h1.cell 3).trans rfl, (h1.cell 1).trans rfl, (h2.cell 9).trans rfl⟩
    have hS := Lib.hid (hSof w1.drew HS1.out.play.drew HB1.out.drew)
    refine R_begin (fun (W : World) => W.cell? ⟨gP, 2, none⟩ = some (ptr gp) ∧ W.cell? ⟨gP, 3, none⟩ = some (ptr gr) ∧ W.cell? ⟨gP, 1, none⟩ = some (ptr gl) ∧ W.cell? ⟨gb, 9, none⟩ = some (str a.row)) (fun _ => false) rfl ?_
    refine R_tk 0 134 hS.out ?_
    simp only [zSA, zSB, zSC]
    refine R_tk 1 135 hS.out ?_
    simp only [zSA, zSB, zSC]
    refine R_tk 2 136 hS.out ?_
    simp only [zSA, zSB, zSC]
    refine R_tk 3 137 hS.out ?_
    simp only [zSA, zSB, zSC]
    refine R_tk 4 138 hS.out ?_
    simp only [zSA, zSB, zSC]
    refine R_tk 5 139 hS.out ?_
    simp only [zSA, zSB, zSC]
    refine R_call 6 140 (w' := w1.drew) rfl rfl (by rfl) (by kernel_rfl) ?_ (py_append HS1.out.drew (by omega) (by omega) a.row (by omega)) ?_
    · go_simp
    rintro e v1 ⟨vv, l2, rfl, h1, k1, n1, r1, x1⟩
    have hB1 : Blk v1 gb 35 (a.cs AX cX AP cP) := HB1.out.drew.keep (k1.block gb (.inl hgbO))
    have hS1 := Lib.hid (hSof v1 h1.play hB1)
    refine ⟨_, rfl, fun _ => hS1.out, ?_⟩
    simp only [zSA, zSB, zSC]
    have HH1 := Lib.hid h1
    have HHB := Lib.hid hB1
    have HK1 := Lib.hid k1
    clear h1 hB1 k1 hS hS1
    refine R_done (by kernel_rfl) ?_ _
    rename_i K9 hK9
    refine hK9 _ _ ?_
    clear hK9
    go_wp2_with fail
    obtain ⟨vL, vD, hgr⟩ := HH1.out.cells
    have hS := Lib.hid (hSof v1.drew HH1.out.play.drew HHB.out.drew)
    have c4 := hgr.drew.cell 4
    have f4 := hgr.drew.frozen 4
    simp only [zGA, zGB, zGC] at c4
    refine R_begin (fun (W : World) => W.cell? ⟨gP, 2, none⟩ = some (ptr gp) ∧ W.cell? ⟨gP, 3, none⟩ = some (ptr gr) ∧ W.cell? ⟨gP, 1, none⟩ = some (ptr gl) ∧ W.cell? ⟨gb, 9, none⟩ = some (str a.row)) (fun j => decide (11 ≤ j)) rfl ?_
    refine R_tt 0 141 hS.out ?_
    simp only [zSA, zSB, zSC]
    refine R_tt 1 142 hS.out ?_
    simp only [zSA, zSB, zSC]
    refine R_tt 2 143 hS.out ?_
    simp only [zSA, zSB, zSC]
    refine R_tt 3 144 hS.out ?_
    simp only [zSA, zSB, zSC]
    refine R_tt 4 145 hS.out ?_
    simp only [zSA, zSB, zSC]
    refine R_tt 5 146 hS.out ?_
    simp only [zSA, zSB, zSC]
    refine R_tt 6 147 hS.out ?_
    simp only [zSA, zSB, zSC]
    refine R_tt 7 148 hS.out ?_
    simp only [zSA, zSB, zSC]
    refine R_call 8 149 (w' := v1.drew) rfl rfl (by rfl) (by kernel_rfl) ?_ (py_next HH1.out.drew) ?_
    · go_simp
    rintro e v2 ⟨rfl, rfl⟩
    refine ⟨_, rfl, fun _ => hS.out, ?_⟩
    simp only [zSA, zSB, zSC]
    refine R_tt 9 150 hS.out ?_
    simp only [zSA, zSB, zSC]
    refine R_tt 10 151 hS.out ?_
    simp only [zSA, zSB, zSC]
    refine R_store 11 (n := .skip) (w' := v1.drew.setCell ⟨gr, 4, none⟩ (.int .u64 l2.next)) rfl rfl (by rfl) (by kernel_rfl) (by go_simp) (.inl rfl) (fun h => nomatch h) ?_
    have hfin := HH1.out.drew.setNext l2.next
    have hkd : Kept (pyK gP (fun b => O b ∨ (w.heap.size ≤ b ∧ b < w1.heap.size)) G) v1 v1.drew := ⟨rfl, rfl, rfl, Nat.le_refl _, fun _ _ => rfl⟩
    have HF := Lib.hid (And.intro hfin.1 (HK1.out.trans (hkd.trans hfin.2)))
    clear hfin c4 f4 hS hSof hgr
    refine R_done (by kernel_rfl) ?_ _
    rename_i K9 hK9
    refine hK9 _ _ ?_
    clear hK9
    go_wp2_with fail
    go_ret
    exact ⟨rfl, G, l2, { s with next := l2.next }, fun b hb => hb, HF.out.1.less (fun b hb => .inl hb), Sp.R15.le.up (s := s) hle (by omega), rfl, n1, r1, x1, HKW.out _ HF.out.2⟩
end
end Go.Proofs.YtndglfiepeefdaaGreat

/- PoolPlays: both pools as they begin. No walk. -/
namespace Go.Proofs.YtndglfiepeefdaaGreat
open Go.RowKit Go.Conc

/-- A pool of n frames that has begun, over pages 1 to 6. -/
def Sp.begP (n : Nat) : Sp.R15 := ⟨n, [], Sp.first, 110, 110, 6⟩
theorem py_begun {w w' : World} {n : Nat} {e : Ending} (h : BegunRows w n e w') :
    ∃ (gP gr gd gl gp : Nat) (G : Foot), e = .returned (ptr gP) ∧ Below w.heap.size w w' ∧ w.heap.size ≤ gP ∧ (∀ b, b < w.heap.size → G b) ∧ PyS w.heap.size gP gd gl gp gr noFoot G (Sp.newLg 0 8 1) (Sp.begP n) (Sp.begP n) w' := by
  obtain ⟨gP, gr, gd, gl, gp, v, xs, D, F, dk, rfl, hP, hr, hrow, hl, hd, hlk, hpl, hDF, hb0, hb, hgl, hgP, hvg, hgr, hgrl, hvo, Gs, hPR, hGs⟩ := h
  have hs := hb.size
  have hg := hP.lt
  have hlg := newLg_mem (by omega) (by omega) (by omega) (by omega) hl
  have hgll : gl < w'.heap.size := by omega
  refine ⟨gP, gr, gd, gl, gp, fun b => b < w.heap.size ∨ Gs b, rfl, hb, by omega, fun b hb => .inl hb, fun b => b < w.heap.size ∨ b = gP ∨ b = gr ∨ v.ownBlock = some b ∨ Gs b, .slice none 0 0, v, ?_, ?_, fun b hb => ?_, fun b hb => hb.elim, fun e => ?_, hP⟩
  · refine ⟨_, D, F, _, dk, hpl, hd, hlg, fun b h1 h2 => hDF b h2 h1, fun b h1 h2 => (hb0 b (.inr h1)).2.2.2 h2, fun b h1 h2 => (hb0 b (.inl h1)).2.2.2 h2, ?_, fun b h hk => ?_, fun b hk => ?_⟩
    · exact {
        wf := hpl.wf
        lwf := Sp.newLg_wf (by omega) (by omega) (by omega) (by omega)
        frames := rfl
        L := rfl
        top := rfl
        forced := rfl
        next := rfl
        ok := fun q h1 h2 => ⟨(Sp.first_ok h1 (Nat.le_trans h2 (by decide))).1, (Sp.first_ok h1 (Nat.le_trans h2 (by decide))).2, rfl⟩
        dkt := ⟨hlk.len, hlk.loose, hlk.fuse, fun q h1 h2 => hlk.page q h1 (Nat.lt_succ_of_le h2)⟩
        dl := ⟨hlk.loose, hlk.fuse, by rw [hlk.len]; decide, by rw [hlk.len]; decide, by rw [hlk.len]; decide, by decide⟩
        lo := by decide
        area := by decide
        tight := by decide
        zero := hlk.zero
        in_ := fun it h => absurd h (by simp) }
    · rcases h with h | h | h
      · have h0 := hb0 b (.inr h)
        rcases hk with e | e | e | e | e
        · omega
        · exact h0.2.1 e
        · exact h0.2.2.1 e
        · exact (hvo b e).2.2.2 h
        · exact (hGs b e).2.2.2.2.2 h
      · have h0 := hb0 b (.inl h)
        rcases hk with e | e | e | e | e
        · omega
        · exact h0.2.1 e
        · exact h0.2.2.1 e
        · exact (hvo b e).2.2.1 h
        · exact (hGs b e).2.2.2.2.1 h
      · obtain rfl : b = gl := h
        rcases hk with e | e | e | e | e
        · omega
        · omega
        · omega
        · have := (hvo b e).2.1; omega
        · have := (hGs b e).2.1; omega
    · rcases hk with e | e | e | e | e
      · omega
      · omega
      · omega
      · have := (hvo b e).2.1; omega
      · have := (hGs b e).2.1; omega
  · exact {
      blk := hr
      L := ⟨[], World.ownsRow_nil _ _ _ _, rfl, fun i x hx => by simp [Sp.begP] at hx⟩
      D := ⟨xs, hrow, hrow.1, fun q hq => by
        obtain ⟨A, c, h1, h2⟩ := hPR q (Nat.lt_succ_of_le hq)
        have e : (Sp.begP n).home q = pgK q := rfl
        rw [e]
        exact ⟨A, c, trivial, h1.mono (fun b hb => .inr hb), h2⟩⟩
      few := Nat.zero_le _
      ids := fun x hx => absurd hx (by simp [Sp.begP])
      nd := List.nodup_nil
      Lr := fun e => nomatch e
      Dr := hvg
      LD := fun b hb => nomatch hb
      lo := hgr
      g := fun b hb => by
        rcases hb with hb | hb
        · exact ⟨by omega, by omega, (fun e => nomatch e), fun e => by have := (hvo b e).1; omega⟩
        · obtain ⟨g1, g2, g3, g4, _⟩ := hGs b hb
          exact ⟨by omega, g3, (fun e => nomatch e), g4⟩ }
  · rcases hb with e | (e | e) | (e | e | e) | e
    · exact e.elim
    · exact .inl e
    · exact .inr (.inr (.inr (.inr e)))
    · exact .inr (.inr (.inl e))
    · cases e
    · exact .inr (.inr (.inr (.inl e)))
    · exact .inr (.inl e)
  · rcases e with e | e | e
    · omega
    · cases e
    · have := (hvo gP e).2.1; omega
end Go.Proofs.YtndglfiepeefdaaGreat

/- PoolPlays: do both pools look alike, and the disk (Stands). -/
namespace Go.Proofs.YtndglfiepeefdaaGreat
open Go.RowKit Go.Conc

theorem drs_at2 {l : List (Nat × Nat)} {i : Nat} (h : i < l.length) : (drs l)[i * 2]? = some (.int .u32 l[i].1) ∧ (drs l)[i * 2 + 1]? = some (.int .u64 l[i].2) := by
  induction l generalizing i with
  | nil => simp at h
  | cons x l ih =>
    cases i with
    | zero => exact ⟨rfl, rfl⟩
    | succ i =>
      have h' : i < l.length := by simpa using h
      have e : drs (x :: l) = [.int .u32 (x.1 : Nat), .int .u64 (x.2 : Nat)] ++ drs l := by simp [drs]
      rw [e]
      obtain ⟨q1, q2⟩ := ih h'
      refine ⟨?_, ?_⟩
      · rw [List.getElem?_append_right (by simp; omega)]
        rw [show (i + 1) * 2 - [Value.int .u32 (x.1 : Nat), Value.int .u64 (x.2 : Nat)].length = i * 2 by simp; omega, q1]
        rfl
      · rw [List.getElem?_append_right (by simp; omega)]
        rw [show (i + 1) * 2 + 1 - [Value.int .u32 (x.1 : Nat), Value.int .u64 (x.2 : Nat)].length = i * 2 + 1 by simp; omega, q2]
        rfl

section
variable {B gP gd gl gp gr : Nat} {O G : Foot} {l : Sp.Lg} {s : Sp.R15} {w : World}
set_option maxRecDepth 100000 in
set_option maxHeartbeats 8000000 in
theorem law15_stands (h : PyS B gP gd gl gp gr O G l s s w) (hok : s.Ok) (hf6 : s.frames ≤ 6) :
    Calls Tryz.prog 10 #[ptr gP] w fun e w' => e = .returned (.bool true) ∧ Below w.heap.size w w' := by
  obtain ⟨K, vL, vD, hpk, hrf, hK, hO, hgP, hP⟩ := h
  obtain ⟨AL, cL, rfl, hLc⟩ := hrf.slice
  obtain ⟨gD, cD, rfl, hDc⟩ := hrf.disk
  have hpl := Sp.pages_len s
  have hll := hok.len
  have hdl : s.dirt.length ≤ s.pages.length := by
    unfold Sp.R15.dirt
    rw [List.length_map]
    exact List.length_filter_le _ _
  have hPW : Hid (∀ W, Below w.heap.size w W → Blk W gP 44 #[ptr gd, ptr gl, ptr gp, ptr gr]) := fun W hb => hP.below hb hP.lt
  have hRW : Hid (∀ W, Below w.heap.size w W → Blk W gr 80 #[.int .i64 s.frames, .slice AL s.L.length cL, .slice (some ⟨gD, 0, none⟩) (s.top + 1) cD, .int .u64 s.forced, .int .u64 s.next]) := fun W hb => hrf.blk.below hb hrf.blk.lt
  have HPG := Lib.hid fun (W : World) (hb : Below w.heap.size w W) => pk_pages (hpk.below hb) (by omega)
  have HRG := Lib.hid fun (W : World) (hb : Below w.heap.size w W) => ref_pages (hrf.below hb)
  have HPD := Lib.hid fun (W : World) (hb : Below w.heap.size w W) => pk_dirty (hpk.below hb) (by omega)
  have HRD := Lib.hid fun (W : World) (hb : Below w.heap.size w W) => ref_dirty (hrf.below hb)
  have HFR := Lib.hid fun (W : World) (hb : Below w.heap.size w W) => pk_free (hpk.below hb)
  have HFO := Lib.hid fun (W : World) (hb : Below w.heap.size w W) => pk_forced (hpk.below hb)
  have HPI := Lib.hid fun (W : World) (hb : Below w.heap.size w W) (id : Nat) (hid : id < 4294967296) => pk_pins (hpk.below hb) hid
  have HAT := Lib.hid fun (W : World) (hb : Below w.heap.size w W) (id : Nat) => ref_at (hrf.below hb) id
  have HRF := Lib.hid hrf
  have HPK := Lib.hid hpk
  have HOK := Lib.hid hok
  rw [← hpl] at hll
  have hwr : IntKind.i64.wrap ((s.frames : Int) - (s.L.length : Int)) = (s.frames : Int) - (s.L.length : Int) := by rw [IntKind.wrap_i64]; omega
  clear hpk hrf hK hO hgP hP hLc hDc hok
  go_enter Tryz.func10, Tryz.ntmps10
  go_wp2_with fail
  have HSa : Hid (∀ W, Below w.heap.size w W → W.cell? ⟨gP, 2, none⟩ = some (ptr gp) ∧ W.cell? ⟨gP, 3, none⟩ = some (ptr gr)) := fun W hb => ⟨((hPW.out W hb).cell 2).trans rfl, ((hPW.out W hb).cell 3).trans rfl⟩
  have hba0 := (Below.refl w.heap.size w).drew
  have hSa0 := Lib.hid (HSa.out _ hba0)
  refine R_begin (fun (W : World) => W.cell? ⟨gP, 2, none⟩ = some (ptr gp) ∧ W.cell? ⟨gP, 3, none⟩ = some (ptr gr)) (fun _ => false) rfl ?_
  refine R_tk 0 14 hSa0.out ?_
  simp only [zSA, zSB, zSC]
  refine R_tk 1 15 hSa0.out ?_
  simp only [zSA, zSB, zSC]
  refine R_tk 2 16 hSa0.out ?_
  simp only [zSA, zSB, zSC]
  refine R_tk 3 17 hSa0.out ?_
  simp only [zSA, zSB, zSC]
  refine R_tk 5 19 hSa0.out ?_
  simp only [zSA, zSB, zSC]
  refine R_tk 6 20 hSa0.out ?_
  simp only [zSA, zSB, zSC]
  refine R_tk 7 21 hSa0.out ?_
  simp only [zSA, zSB, zSC]
  refine R_tk 8 22 hSa0.out ?_
  simp only [zSA, zSB, zSC]
  refine R_call 4 18 (w' := w.drew) rfl rfl (by rfl) (by kernel_rfl) ?_ (HPG.out w.drew hba0) ?_
  · go_simp
  rintro e a1 ⟨Aa1, ca1, rfl, hRa1, hca1⟩
  have hba1 := hba0.trans (hca1.mono hba0.size)
  have hSa1 := Lib.hid (HSa.out a1 hba1)
  refine ⟨_, rfl, fun _ => hSa1.out, ?_⟩
  simp only [zSA, zSB, zSC]
  refine R_call 9 23 (w' := a1) rfl rfl (by rfl) (by kernel_rfl) ?_ (HRG.out a1 hba1) ?_
  · go_simp
  rintro e a2 ⟨Aa2, ca2, rfl, hRa2, hca2⟩
  have hba2 := hba1.trans (hca2.mono hba1.size)
  have hSa2 := Lib.hid (HSa.out a2 hba2)
  refine ⟨_, rfl, fun _ => hSa2.out, ?_⟩
  simp only [zSA, zSB, zSC]
  refine R_tk 10 3 hSa2.out ?_
  simp only [zSA, zSB, zSC]
  refine R_tk 11 4 hSa2.out ?_
  simp only [zSA, zSB, zSC]
  refine R_done (by kernel_rfl) ?_ _
  rename_i K9 hK9
  refine hK9 _ _ ?_
  clear hK9
  go_wp2_with fail
  have HSb : Hid (∀ W, Below w.heap.size w W → W.cell? ⟨gP, 2, none⟩ = some (ptr gp) ∧ W.cell? ⟨gP, 3, none⟩ = some (ptr gr)) := fun W hb => ⟨((hPW.out W hb).cell 2).trans rfl, ((hPW.out W hb).cell 3).trans rfl⟩
  have hbb0 := hba2.trans ((Below.refl a2.heap.size a2).drew.mono hba2.size)
  have hSb0 := Lib.hid (HSb.out _ hbb0)
  refine R_begin (fun (W : World) => W.cell? ⟨gP, 2, none⟩ = some (ptr gp) ∧ W.cell? ⟨gP, 3, none⟩ = some (ptr gr)) (fun _ => false) rfl ?_
  refine R_tk 0 24 hSb0.out ?_
  simp only [zSA, zSB, zSC]
  refine R_tk 1 25 hSb0.out ?_
  simp only [zSA, zSB, zSC]
  refine R_tk 2 26 hSb0.out ?_
  simp only [zSA, zSB, zSC]
  refine R_tk 3 27 hSb0.out ?_
  simp only [zSA, zSB, zSC]
  refine R_tk 5 29 hSb0.out ?_
  simp only [zSA, zSB, zSC]
  refine R_tk 6 30 hSb0.out ?_
  simp only [zSA, zSB, zSC]
  refine R_tk 7 31 hSb0.out ?_
  simp only [zSA, zSB, zSC]
  refine R_tk 8 32 hSb0.out ?_
  simp only [zSA, zSB, zSC]
  refine R_call 4 28 (w' := a2.drew) rfl rfl (by rfl) (by kernel_rfl) ?_ (HPD.out a2.drew hbb0) ?_
  · go_simp
  rintro e b1 ⟨Ab1, cb1, rfl, hRb1, hcb1⟩
  have hbb1 := hbb0.trans (hcb1.mono hbb0.size)
  have hSb1 := Lib.hid (HSb.out b1 hbb1)
  refine ⟨_, rfl, fun _ => hSb1.out, ?_⟩
  simp only [zSA, zSB, zSC]
  refine R_call 9 33 (w' := b1) rfl rfl (by rfl) (by kernel_rfl) ?_ (HRD.out b1 hbb1) ?_
  · go_simp
  rintro e b2 ⟨Ab2, cb2, rfl, hRb2, hcb2⟩
  have hbb2 := hbb1.trans (hcb2.mono hbb1.size)
  have hSb2 := Lib.hid (HSb.out b2 hbb2)
  refine ⟨_, rfl, fun _ => hSb2.out, ?_⟩
  simp only [zSA, zSB, zSC]
  refine R_tk 10 5 hSb2.out ?_
  simp only [zSA, zSB, zSC]
  refine R_tk 11 6 hSb2.out ?_
  simp only [zSA, zSB, zSC]
  refine R_done (by kernel_rfl) ?_ _
  rename_i K9 hK9
  refine hK9 _ _ ?_
  clear hK9
  go_wp2_with fail
  have HS3 : Hid (∀ W, Below w.heap.size w W → W.cell? ⟨gP, 1, none⟩ = some (ptr gl) ∧ W.cell? ⟨gP, 2, none⟩ = some (ptr gp) ∧ W.cell? ⟨gP, 3, none⟩ = some (ptr gr) ∧ W.cell? ⟨gr, 0, none⟩ = some (.int .i64 s.frames) ∧ W.cell? ⟨gr, 3, none⟩ = some (.int .u64 s.forced)) := fun W hb => ⟨((hPW.out W hb).cell 1).trans rfl, ((hPW.out W hb).cell 2).trans rfl, ((hPW.out W hb).cell 3).trans rfl, ((hRW.out W hb).cell 0).trans rfl, ((hRW.out W hb).cell 3).trans rfl⟩
  have hb30 : Below w.heap.size w b2.drew := hbb2.trans ((Below.refl b2.heap.size b2).drew.mono hbb2.size)
  have hS30 := Lib.hid (HS3.out _ hb30)
  refine R_begin (fun (W : World) => W.cell? ⟨gP, 1, none⟩ = some (ptr gl) ∧ W.cell? ⟨gP, 2, none⟩ = some (ptr gp) ∧ W.cell? ⟨gP, 3, none⟩ = some (ptr gr) ∧ W.cell? ⟨gr, 0, none⟩ = some (.int .i64 s.frames) ∧ W.cell? ⟨gr, 3, none⟩ = some (.int .u64 s.forced)) (fun _ => false) rfl ?_
  refine R_tk 0 34 hS30.out ?_
  simp only [zSA, zSB, zSC]
  refine R_tk 1 35 hS30.out ?_
  simp only [zSA, zSB, zSC]
  refine R_tk 2 36 hS30.out ?_
  simp only [zSA, zSB, zSC]
  refine R_tk 3 37 hS30.out ?_
  simp only [zSA, zSB, zSC]
  refine R_tk (v := .bool false) 4 38 hS30.out ?_
  simp only [zSA, zSB, zSC]
  refine R_tk 5 39 hS30.out ?_
  simp only [zSA, zSB, zSC]
  refine R_tk 6 40 hS30.out ?_
  simp only [zSA, zSB, zSC]
  refine R_tk 7 41 hS30.out ?_
  simp only [zSA, zSB, zSC]
  refine R_tk 8 42 hS30.out ?_
  simp only [zSA, zSB, zSC]
  refine R_tk 9 43 hS30.out ?_
  simp only [zSA, zSB, zSC]
  refine R_tk (v := .bool false) 10 44 hS30.out ?_
  simp only [zSA, zSB, zSC]
  refine R_tk 11 45 hS30.out ?_
  simp only [zSA, zSB, zSC]
  refine R_tk 12 46 hS30.out ?_
  simp only [zSA, zSB, zSC]
  refine R_tk 13 47 hS30.out ?_
  simp only [zSA, zSB, zSC]
  refine R_tk 14 48 hS30.out ?_
  simp only [zSA, zSB, zSC]
  refine R_tk 15 49 hS30.out ?_
  simp only [zSA, zSB, zSC]
  refine R_tk 16 50 hS30.out ?_
  simp only [zSA, zSB, zSC]
  refine R_tk 18 52 hS30.out ?_
  simp only [zSA, zSB, zSC]
  refine R_tk 19 53 hS30.out ?_
  simp only [zSA, zSB, zSC]
  refine R_tk 20 54 hS30.out ?_
  simp only [zSA, zSB, zSC]
  refine R_tk 21 55 hS30.out ?_
  simp only [zSA, zSB, zSC]
  refine R_tk 22 56 hS30.out ?_
  simp only [zSA, zSB, zSC]
  refine R_tk 23 57 hS30.out ?_
  simp only [zSA, zSB, zSC]
  refine R_tk 24 58 hS30.out ?_
  simp only [zSA, zSB, zSC]
  refine R_tk 25 59 hS30.out ?_
  simp only [zSA, zSB, zSC]
  refine R_tk 26 60 hS30.out ?_
  simp only [zSA, zSB, zSC]
  refine R_tk 27 61 hS30.out ?_
  simp only [zSA, zSB, zSC]
  refine R_call 17 51 (w' := b2.drew) rfl rfl (by rfl) (by kernel_rfl) ?_ (HFR.out b2.drew hb30) ?_
  · go_simp
  rintro e vv ⟨rfl, rfl⟩
  refine ⟨_, rfl, fun _ => hS30.out, ?_⟩
  simp only [zSA, zSB, zSC]
  refine R_tk (v := .bool false) 28 62 hS30.out ?_
  simp only [zSA, zSB, zSC]
  refine R_tk 29 63 hS30.out ?_
  simp only [zSA, zSB, zSC]
  refine R_tk 30 64 hS30.out ?_
  simp only [zSA, zSB, zSC]
  refine R_tk 31 65 hS30.out ?_
  simp only [zSA, zSB, zSC]
  refine R_tk 32 66 hS30.out ?_
  simp only [zSA, zSB, zSC]
  refine R_tk 33 67 hS30.out ?_
  simp only [zSA, zSB, zSC]
  refine R_tk 34 68 hS30.out ?_
  simp only [zSA, zSB, zSC]
  refine R_tk 36 70 hS30.out ?_
  simp only [zSA, zSB, zSC]
  refine R_tk 37 71 hS30.out ?_
  simp only [zSA, zSB, zSC]
  refine R_tk 38 72 hS30.out ?_
  simp only [zSA, zSB, zSC]
  refine R_tk 39 73 hS30.out ?_
  simp only [zSA, zSB, zSC]
  refine R_tk 40 74 hS30.out ?_
  simp only [zSA, zSB, zSC]
  refine R_tk 41 75 hS30.out ?_
  simp only [zSA, zSB, zSC]
  refine R_tk 42 76 hS30.out ?_
  simp only [zSA, zSB, zSC]
  refine R_call 35 69 (w' := b2.drew) rfl rfl (by rfl) (by kernel_rfl) ?_ (HFO.out b2.drew hb30) ?_
  · go_simp
  rintro e vv ⟨rfl, rfl⟩
  refine ⟨_, rfl, fun _ => hS30.out, ?_⟩
  simp only [zSA, zSB, zSC]
  refine R_tk (v := .bool false) 43 77 hS30.out ?_
  simp only [zSA, zSB, zSC]
  refine R_tk 44 78 hS30.out ?_
  simp only [zSA, zSB, zSC]
  refine R_done (by kernel_rfl) ?_ _
  rename_i K9 hK9
  refine hK9 _ _ ?_
  clear hK9
  have hx1 : Below a1.heap.size a1 b2.drew := hca2.trans (((Below.refl a2.heap.size a2).drew.trans ((hcb1.mono (Nat.le_refl _)).trans ((hcb2.trans ((Below.refl b2.heap.size b2).drew.mono hcb2.size)).mono hcb1.size))).mono hca2.size)
  have hx2 : Below a2.heap.size a2 b2.drew := (Below.refl a2.heap.size a2).drew.trans ((hcb1.mono (Nat.le_refl _)).trans ((hcb2.trans ((Below.refl b2.heap.size b2).drew.mono hcb2.size)).mono hcb1.size))
  have hx3 : Below b1.heap.size b1 b2.drew := hcb2.trans ((Below.refl b2.heap.size b2).drew.mono hcb2.size)
  have hx4 : Below b2.heap.size b2 b2.drew := (Below.refl b2.heap.size b2).drew
  have HQ1 := Lib.hid ((Reads.below hRa1 hx1).mono (G' := fun _ => True) (fun _ _ => trivial))
  have HQ2 := Lib.hid ((Reads.below hRa2 hx2).mono (G' := fun _ => True) (fun _ _ => trivial))
  have HD1 := Lib.hid ((Reads.below hRb1 hx3).mono (G' := fun _ => True) (fun _ _ => trivial))
  have HD2 := Lib.hid ((Reads.below hRb2 hx4).mono (G' := fun _ => True) (fun _ _ => trivial))
  have HB3 := Lib.hid hb30
  clear hx1 hx2 hx3 hx4 hRa1 hRa2 hRb1 hRb2 hca1 hca2 hcb1 hcb2 hba0 hba1 hba2 hbb0 hbb1 hbb2 hSa0 hSa1 hSa2 hSb0 hSb1 hSb2 HSa HSb HS3 hS30 hb30 HFR HFO HPG HRG HPD HRD
  generalize b2.drew = w3 at *
  have hqh : Hid (∀ n ∈ s.pages, Sp.hasR s.L n = true) := fun n hn => Sp.pages_has hn
  generalize s.pages = q at *
  generalize s.dirt = dl at *
  rw [← hpl]
  have HPL := Lib.hid hpl
  clear hpl
  go_wp2_with fail
  go_loopw [7] (fun v7 wr => ∃ i : Nat, i ≤ q.length ∧ v7 = .int .i64 i ∧ Below w3.heap.size w3 wr) (fun v7 _ => q.length - (intOf v7).toNat)
  case atStart => exact ⟨0, by omega, rfl, Below.refl _ _⟩
  case round =>
    obtain ⟨i, hi, rfl, hbr3⟩ := hrel
    have hbr := HB3.out.trans (hbr3.mono HB3.out.size)
    by_cases hlt : i < q.length
    · as_aux_lemma => --A0
        obtain ⟨b, o, u, rfl, _, hbw, hu, hc1⟩ := (Reads.below HQ1.out hbr3).at_ hlt
        obtain ⟨b', o', u', rfl, _, hbw', hu', hc2⟩ := (Reads.below HQ2.out hbr3).at_ hlt
        rw [List.getElem?_map, List.getElem?_eq_getElem hlt] at hu hu'
        injection hu with hu
        injection hu' with hu'
        subst hu hu'
        rcases Sp.at_cases s q[i] with ⟨_, _, hno⟩ | ⟨k, hk, hat, hid, hget, _⟩
        · rw [hqh.out q[i] (List.getElem_mem hlt)] at hno; cases hno
        · have h1 := HRF.out.below hbr
          obtain ⟨g, cc, A, c', hvL, hA, hR, hc⟩ := h1.item hk
          injection hvL with hvL _ _
          subst hvL
          have k6 := hc 6 (by omega)
          simp only [riCells, List.getElem?_cons_succ, List.getElem?_cons_zero] at k6
          have hgw : g < wr.heap.size := World.block_lt_of_cell? wr _ (k6.trans rfl)
          have hq32 : q[i] < 4294967296 := by have := HRF.out.ids _ (List.getElem_mem hk); rw [hid] at this; exact this
          have hpo : s.pinsOf q[i] = s.L[k].pins := by unfold Sp.R15.pinsOf; rw [hget]; rfl
          have HPIX := Lib.hid fun (W : World) (hb : Below wr.heap.size wr W) => HPI.out W (hbr.trans (hb.mono hbr.size)) q[i] hq32
          have HATX := Lib.hid fun (W : World) (hb : Below wr.heap.size wr W) => HAT.out W (hbr.trans (hb.mono hbr.size)) q[i]
          rw [hpo] at HPIX
          rw [hat] at HATX
          have hmeas : i + 1 ≤ q.length := hlt
          have HBR3 := Lib.hid hbr3
          clear hR hA hc h1 hpo hat hget hid hi
          go_wp2_with fail
          have HS8 : Hid (∀ W, Below wr.heap.size wr W → W.cell? ⟨gP, 2, none⟩ = some (ptr gp) ∧ W.cell? ⟨gP, 3, none⟩ = some (ptr gr) ∧ W.cell? ⟨gr, 1, none⟩ = some (.slice (some ⟨g, 0, none⟩) s.L.length cL) ∧ W.cell? ⟨g, k * 9 + 6, none⟩ = some (.int .i64 s.L[k].pins) ∧ W.cell? ⟨b, o + i, none⟩ = some (u32v q[i]) ∧ W.cell? ⟨b', o' + i, none⟩ = some (u32v q[i])) := fun W hb => ⟨((hPW.out W (hbr.trans (hb.mono hbr.size))).cell 2).trans rfl, ((hPW.out W (hbr.trans (hb.mono hbr.size))).cell 3).trans rfl, ((hRW.out W (hbr.trans (hb.mono hbr.size))).cell 1).trans rfl, (hb.cell (p := ⟨g, k * 9 + 6, none⟩) hgw).trans k6, (hb.cell (p := ⟨b, o + i, none⟩) hbw).trans hc1, (hb.cell (p := ⟨b', o' + i, none⟩) hbw').trans hc2⟩
          have hb80 : Below wr.heap.size wr wr.drew := (Below.refl wr.heap.size wr).drew
          have hS80 := Lib.hid (HS8.out _ hb80)
          refine R_begin (fun (W : World) => W.cell? ⟨gP, 2, none⟩ = some (ptr gp) ∧ W.cell? ⟨gP, 3, none⟩ = some (ptr gr) ∧ W.cell? ⟨gr, 1, none⟩ = some (.slice (some ⟨g, 0, none⟩) s.L.length cL) ∧ W.cell? ⟨g, k * 9 + 6, none⟩ = some (.int .i64 s.L[k].pins) ∧ W.cell? ⟨b, o + i, none⟩ = some (u32v q[i]) ∧ W.cell? ⟨b', o' + i, none⟩ = some (u32v q[i])) (fun _ => false) rfl ?_
          refine R_tk 0 85 hS80.out ?_
          simp only [zSA, zSB, zSC]
          refine R_tk 1 86 hS80.out ?_
          simp only [zSA, zSB, zSC]
          refine R_tk 2 87 hS80.out ?_
          simp only [zSA, zSB, zSC]
          refine R_tk 3 88 hS80.out ?_
          simp only [zSA, zSB, zSC]
          refine R_tk 4 89 hS80.out ?_
          simp only [zSA, zSB, zSC]
          refine R_tk 5 90 hS80.out ?_
          simp only [zSA, zSB, zSC]
          refine R_tk 6 91 hS80.out ?_
          simp only [zSA, zSB, zSC]
          refine R_tk 7 92 hS80.out ?_
          simp only [zSA, zSB, zSC]
          refine R_tk (v := .bool false) 8 93 hS80.out ?_
          simp only [zSA, zSB, zSC]
          refine R_tk 9 94 hS80.out ?_
          simp only [zSA, zSB, zSC]
          refine R_tk 10 95 hS80.out ?_
          simp only [zSA, zSB, zSC]
          refine R_tk 11 96 hS80.out ?_
          simp only [zSA, zSB, zSC]
          refine R_tk 12 97 hS80.out ?_
          simp only [zSA, zSB, zSC]
          refine R_tk 13 98 hS80.out ?_
          simp only [zSA, zSB, zSC]
          refine R_tk 14 99 hS80.out ?_
          simp only [zSA, zSB, zSC]
          refine R_tk 15 100 hS80.out ?_
          simp only [zSA, zSB, zSC]
          refine R_tk 16 101 hS80.out ?_
          simp only [zSA, zSB, zSC]
          refine R_tk 17 102 hS80.out ?_
          simp only [zSA, zSB, zSC]
          refine R_tk 19 104 hS80.out ?_
          simp only [zSA, zSB, zSC]
          refine R_tk 20 105 hS80.out ?_
          simp only [zSA, zSB, zSC]
          refine R_tk 21 106 hS80.out ?_
          simp only [zSA, zSB, zSC]
          refine R_tk 22 107 hS80.out ?_
          simp only [zSA, zSB, zSC]
          refine R_tk 23 108 hS80.out ?_
          simp only [zSA, zSB, zSC]
          refine R_tk 24 109 hS80.out ?_
          simp only [zSA, zSB, zSC]
          refine R_tk 25 110 hS80.out ?_
          simp only [zSA, zSB, zSC]
          refine R_tk 26 111 hS80.out ?_
          simp only [zSA, zSB, zSC]
          refine R_tk 27 112 hS80.out ?_
          simp only [zSA, zSB, zSC]
          refine R_tk 28 113 hS80.out ?_
          simp only [zSA, zSB, zSC]
          refine R_tk 29 114 hS80.out ?_
          simp only [zSA, zSB, zSC]
          refine R_tk 30 115 hS80.out ?_
          simp only [zSA, zSB, zSC]
          refine R_tk 31 116 hS80.out ?_
          simp only [zSA, zSB, zSC]
          refine R_tk 32 117 hS80.out ?_
          simp only [zSA, zSB, zSC]
          refine R_tk 33 118 hS80.out ?_
          simp only [zSA, zSB, zSC]
          refine R_call 18 103 (w' := wr.drew) rfl rfl (by rfl) (by kernel_rfl) ?_ (HPIX.out wr.drew hb80) ?_
          · go_simp
          rintro e vv ⟨rfl, rfl⟩
          refine ⟨_, rfl, fun _ => hS80.out, ?_⟩
          simp only [zSA, zSB, zSC]
          refine R_call 34 119 (w' := wr.drew) rfl rfl (by rfl) (by kernel_rfl) ?_ (HATX.out wr.drew hb80) ?_
          · go_simp
          rintro e v8 ⟨rfl, hc8⟩
          have hb81 := hb80.trans (hc8.mono hb80.size)
          have hS81 := Lib.hid (HS8.out _ hb81)
          refine ⟨_, rfl, fun _ => hS81.out, ?_⟩
          simp only [zSA, zSB, zSC]
          refine R_tk 35 120 hS81.out ?_
          simp only [zSA, zSB, zSC]
          refine R_tk 36 121 hS81.out ?_
          simp only [zSA, zSB, zSC]
          refine R_tk 37 122 hS81.out ?_
          simp only [zSA, zSB, zSC]
          refine R_tk (v := .bool false) 38 123 hS81.out ?_
          simp only [zSA, zSB, zSC]
          refine R_tk 39 124 hS81.out ?_
          simp only [zSA, zSB, zSC]
          refine R_done (by kernel_rfl) ?_ _
          go_wp2_with fail
          go_roundw
          case rel => exact ⟨i + 1, hmeas, by go_num, HBR3.out.trans (hb81.mono HBR3.out.size)⟩
          case measure => simp [intOf]; omega
        --A1
    · obtain rfl : i = q.length := by omega
      clear HQ1 HQ2 hbr
      have HW4 := Lib.hid hbr3
      clear hbr3 hi hlt
      go_wp2_with fail
      go_loopw [8] (fun v8 wr => ∃ i : Nat, i ≤ dl.length ∧ v8 = .int .i64 i ∧ Below w3.heap.size w3 wr) (fun v8 _ => dl.length - (intOf v8).toNat)
      case atStart => exact ⟨0, by omega, rfl, HW4.out⟩
      case round =>
        clear HW4
        obtain ⟨i, hi, rfl, hbr3⟩ := hrel
        by_cases hlt : i < dl.length
        · as_aux_lemma => --B0
            obtain ⟨b, o, rfl, _, hbw, hc1⟩ := (Reads.below HD1.out hbr3).2 (by omega)
            obtain ⟨b', o', rfl, _, hbw', hc2⟩ := (Reads.below HD2.out hbr3).2 (by omega)
            have e1 := hc1 _ _ (drs_at2 hlt).1
            have e2 := hc1 _ _ (drs_at2 hlt).2
            have e3 := hc2 _ _ (drs_at2 hlt).1
            have e4 := hc2 _ _ (drs_at2 hlt).2
            rw [← Nat.add_assoc] at e2 e4
            have hmeas : i + 1 ≤ dl.length := hlt
            have HBR3 := Lib.hid hbr3
            generalize dl[i].1 = x1 at *
            generalize dl[i].2 = x2 at *
            clear hc1 hc2 hbr3 hi
            go_wp2_with fail
            go_quiet (fail)
            go_wp2_with fail
            go_roundw
            case rel => exact ⟨i + 1, hmeas, by go_num, below_drewN' HBR3.out _⟩
            case measure => simp [intOf]; omega
            --B1
        · obtain rfl : i = dl.length := by omega
          clear HD1 HD2 hi hlt
          have HW4 := Lib.hid hbr3
          clear hbr3
          go_wp2_with fail
          go_loopw [9] (fun v9 wr => ∃ n : Nat, 1 ≤ n ∧ n ≤ 7 ∧ v9 = .int .u32 n ∧ Below w3.heap.size w3 wr) (fun v9 _ => 7 - (intOf v9).toNat)
          case atStart => exact ⟨1, by omega, by omega, rfl, HW4.out⟩
          case round =>
            clear HW4
            obtain ⟨n, hn1, hn7, rfl, hbr3⟩ := hrel
            have hbr := HB3.out.trans (hbr3.mono HB3.out.size)
            by_cases hlt : n < 7
            · as_aux_lemma => --C0
                have dk7 : decide ((n : Int) < 7) = true := by rw [decide_eq_true_iff]; omega
                have dk7' : (n : Int) < 7 := by omega
                obtain ⟨p, DF, FF, GG, dk, hplx, hdx, hgx, hFD, hFG, hDG, hrep, _, _⟩ := HPK.out
                have hdd := hdx.below hbr
                have n6 : n ≤ ly15.top := Nat.le_of_lt_succ hlt
                have hx := hrep.ok n hn1 n6
                have htop : s.top = 6 := hrep.top
                have hpg : Sp.pageAt dk.sure (44 + n * 4) = pgBytes (s.disk n) := hrep.dkt.page n hn1 n6
                have HTR := Lib.hid (twin_read hdd (by rw [hrep.dl.fuse]; decide) hrep.dl.loose 44 n (by omega) (by rw [hrep.dkt.len]; show _ ≤ 72; omega))
                rw [hpg] at HTR
                obtain ⟨gD', cD', hvD, hcD⟩ := (HRF.out.below hbr).disk
                injection hvD with hvD _ _
                injection hvD with hvD
                injection hvD with hvD
                subst hvD
                have hhome : s.home n = s.disk n := by unfold Sp.R15.home; rw [if_neg (by omega)]
                obtain ⟨A', c', hA', hR', hc'⟩ := hcD n (by omega)
                rw [hhome] at hR' hc'
                have hgDw : gD < wr.heap.size := by
                  have := hc' 0 (by omega)
                  exact World.block_lt_of_cell? wr _ (this.trans rfl)
                have c0 := (hPW.out wr hbr).cell 0
                simp only [List.getElem?_toArray, List.getElem?_cons_zero] at c0
                obtain ⟨x, hxe⟩ : ∃ x, x = s.disk n := ⟨_, rfl⟩
                rw [← hxe] at HTR hx hR' hc'
                have HDECF := Lib.hid fun (W : World) => page_decode (w := W) hx.1 hx.2.1
                have hxl : x.rows.length ≤ 484 := by have := hx.2.1.2.2.2.2; omega
                have HBR3 := Lib.hid hbr3
                have HBR := Lib.hid hbr
                have HRP := Lib.hid hR'
                have HCP := Lib.hid hc'
                clear hplx hdx hgx hFD hFG hDG hrep hdd hx hpg hcD hhome hA' hR' hc' hbr3 hbr hxe
                go_wp2_with fail
                refine HTR.out.mono ?_
                rintro e w4 ⟨rfl, hb4⟩
                clear HTR c0
                go_wp2_with fail
                refine (HDECF.out w4).mono ?_
                rintro e w5 ⟨A, c, rfl, hA, hR, hb5⟩
                clear HDECF
                go_wp2_with fail
                generalize hw6 : World.alloc w5 _ = w6
                have hb56 : Below w5.heap.size w5 w6 := by rw [← hw6]; exact (Below.refl _ _).alloc (Nat.le_refl _) _
                have HBX : Hid (Blk w6 w5.heap.size 32 (pgCs x A c)) := by rw [← hw6]; exact Blk.new _ _ _
                have hb46 : Below wr.heap.size wr w6 := hb4.trans ((hb5.trans (hb56.mono hb5.size)).mono hb4.size)
                have HW6 := Lib.hid (HBR.out.trans (hb46.mono HBR.out.size))
                have HW3 := Lib.hid (HBR3.out.trans (hb46.mono HBR3.out.size))
                have HRX := Lib.hid (Reads.below hR hb56)
                have HRD := Lib.hid (Reads.below HRP.out hb46)
                have HDC : Hid (∀ W, Below w6.heap.size w6 W → ∀ j, j < 6 → W.cell? ⟨gD, n * 6 + j, none⟩ = (pgCs x A' c')[j]?) := fun W hb j hj => ((hb46.trans (hb.mono hb46.size)).cell (p := ⟨gD, n * 6 + j, none⟩) hgDw).trans (HCP.out j hj)
                clear hw6 hb56 hb46 hb4 hb5 hR hA
                generalize w5.heap.size = gx at *
                have hnt : (n : Int) < (s.top : Int) + 1 := by omega
                have hnt2 : (0 : Int) ≤ (n : Int) := by omega
                have HS20 : Hid (∀ W, Below w6.heap.size w6 W → W.cell? ⟨gP, 3, none⟩ = some (ptr gr) ∧ W.cell? ⟨gr, 2, none⟩ = some (.slice (some ⟨gD, 0, none⟩) (s.top + 1) cD) ∧ W.cell? ⟨gx, 0, none⟩ = some (.int .u8 x.kind) ∧ W.cell? ⟨gx, 1, none⟩ = some (.int .u8 x.level) ∧ W.cell? ⟨gx, 2, none⟩ = some (.int .u32 x.id) ∧ W.cell? ⟨gx, 3, none⟩ = some (.int .u64 x.lsn) ∧ W.cell? ⟨gx, 4, none⟩ = some (.int .u32 x.next) ∧ W.cell? ⟨gx, 5, none⟩ = some (.slice A x.rows.length c) ∧ W.cell? ⟨gD, n * 6, none⟩ = some (.int .u8 x.kind) ∧ W.cell? ⟨gD, n * 6 + 1, none⟩ = some (.int .u8 x.level) ∧ W.cell? ⟨gD, n * 6 + 2, none⟩ = some (.int .u32 x.id) ∧ W.cell? ⟨gD, n * 6 + 3, none⟩ = some (.int .u64 x.lsn) ∧ W.cell? ⟨gD, n * 6 + 4, none⟩ = some (.int .u32 x.next) ∧ W.cell? ⟨gD, n * 6 + 5, none⟩ = some (.slice A' x.rows.length c')) := fun W hb => ⟨((hPW.out W (HW6.out.trans (hb.mono HW6.out.size))).cell 3).trans rfl, ((hRW.out W (HW6.out.trans (hb.mono HW6.out.size))).cell 2).trans rfl, ((HBX.out.below hb HBX.out.lt).cell 0).trans rfl, ((HBX.out.below hb HBX.out.lt).cell 1).trans rfl, ((HBX.out.below hb HBX.out.lt).cell 2).trans rfl, ((HBX.out.below hb HBX.out.lt).cell 3).trans rfl, ((HBX.out.below hb HBX.out.lt).cell 4).trans rfl, ((HBX.out.below hb HBX.out.lt).cell 5).trans rfl, HDC.out W hb 0 (by omega), HDC.out W hb 1 (by omega), HDC.out W hb 2 (by omega), HDC.out W hb 3 (by omega), HDC.out W hb 4 (by omega), HDC.out W hb 5 (by omega)⟩
                have hb90 : Below w6.heap.size w6 w6.drew := (Below.refl w6.heap.size w6).drew
                have hS90 := Lib.hid (HS20.out _ hb90)
                refine R_begin (fun (W : World) => W.cell? ⟨gP, 3, none⟩ = some (ptr gr) ∧ W.cell? ⟨gr, 2, none⟩ = some (.slice (some ⟨gD, 0, none⟩) (s.top + 1) cD) ∧ W.cell? ⟨gx, 0, none⟩ = some (.int .u8 x.kind) ∧ W.cell? ⟨gx, 1, none⟩ = some (.int .u8 x.level) ∧ W.cell? ⟨gx, 2, none⟩ = some (.int .u32 x.id) ∧ W.cell? ⟨gx, 3, none⟩ = some (.int .u64 x.lsn) ∧ W.cell? ⟨gx, 4, none⟩ = some (.int .u32 x.next) ∧ W.cell? ⟨gx, 5, none⟩ = some (.slice A x.rows.length c) ∧ W.cell? ⟨gD, n * 6, none⟩ = some (.int .u8 x.kind) ∧ W.cell? ⟨gD, n * 6 + 1, none⟩ = some (.int .u8 x.level) ∧ W.cell? ⟨gD, n * 6 + 2, none⟩ = some (.int .u32 x.id) ∧ W.cell? ⟨gD, n * 6 + 3, none⟩ = some (.int .u64 x.lsn) ∧ W.cell? ⟨gD, n * 6 + 4, none⟩ = some (.int .u32 x.next) ∧ W.cell? ⟨gD, n * 6 + 5, none⟩ = some (.slice A' x.rows.length c')) (fun _ => false) rfl ?_
                refine R_tk 0 158 hS90.out ?_
                simp only [zSA, zSB, zSC]
                refine R_tk (v := .bool false) 1 159 hS90.out ?_
                simp only [zSA, zSB, zSC]
                refine R_tk 2 160 hS90.out ?_
                simp only [zSA, zSB, zSC]
                refine R_tk 3 161 hS90.out ?_
                simp only [zSA, zSB, zSC]
                refine R_tk (v := .bool false) 4 162 hS90.out ?_
                simp only [zSA, zSB, zSC]
                refine R_tk 5 163 hS90.out ?_
                simp only [zSA, zSB, zSC]
                refine R_tk 6 164 hS90.out ?_
                simp only [zSA, zSB, zSC]
                refine R_tk 7 165 hS90.out ?_
                simp only [zSA, zSB, zSC]
                refine R_tk 8 166 hS90.out ?_
                simp only [zSA, zSB, zSC]
                refine R_tk 9 167 hS90.out ?_
                simp only [zSA, zSB, zSC]
                refine R_tk 10 168 hS90.out ?_
                simp only [zSA, zSB, zSC]
                refine R_tk 11 169 hS90.out ?_
                simp only [zSA, zSB, zSC]
                refine R_tk 12 170 hS90.out ?_
                simp only [zSA, zSB, zSC]
                refine R_tk 13 171 hS90.out ?_
                simp only [zSA, zSB, zSC]
                refine R_tk 14 172 hS90.out ?_
                simp only [zSA, zSB, zSC]
                refine R_tk 15 173 hS90.out ?_
                simp only [zSA, zSB, zSC]
                refine R_tk 16 174 hS90.out ?_
                simp only [zSA, zSB, zSC]
                refine R_tk 17 175 hS90.out ?_
                simp only [zSA, zSB, zSC]
                refine R_call 18 176 (w' := w6.drew) rfl rfl (by rfl) (by kernel_rfl) ?_ (ref06_same (c := c) (c' := c') (Reads.below HRX.out hb90) (Reads.below HRD.out hb90) (by omega)) ?_
                · go_simp
                rintro e v9 ⟨rfl, hc9⟩
                have hb91 := hb90.trans (hc9.mono hb90.size)
                have hS91 := Lib.hid (HS20.out _ hb91)
                refine ⟨_, rfl, fun _ => hS91.out, ?_⟩
                simp only [zSA, zSB, zSC]
                refine R_tk 19 177 hS91.out ?_
                simp only [zSA, zSB, zSC]
                refine R_tk 20 178 hS91.out ?_
                simp only [zSA, zSB, zSC]
                refine R_done (by kernel_rfl) ?_ _
                go_wp2_with fail
                go_roundw
                case rel => exact ⟨n + 1, by omega, by omega, by go_num, HW3.out.trans (hb91.mono HW3.out.size)⟩
                case measure => simp [intOf]; omega
                --C1
            · obtain rfl : n = 7 := by omega
              have hp0 : s.pinsOf 1000 = 0 := by
                unfold Sp.R15.pinsOf Sp.getR?
                have : s.L.find? (fun x => x.page.id == 1000) = none := by
                  rw [List.find?_eq_none]
                  intro x hx
                  have h1 := HOK.out.in_ x hx
                  obtain ⟨p, DF, FF, GG, dk, _, _, _, _, _, _, hrep, _, _⟩ := HPK.out
                  have htop : s.top = 6 := hrep.top
                  simp
                  omega
                rw [this]; rfl
              have HP10 := Lib.hid (HPI.out wr hbr 1000 (by omega))
              rw [hp0] at HP10
              have c2 := (hPW.out wr hbr).cell 2
              simp only [zGA, zGB, zGC] at c2
              have HBR := Lib.hid hbr
              clear hbr hbr3 hp0
              go_wp2_with fail
              refine HP10.out.mono ?_
              rintro e vv ⟨rfl, rfl⟩
              go_wp2_with fail
              go_ret
              exact ⟨rfl, HBR.out⟩
end
end Go.Proofs.YtndglfiepeefdaaGreat

/- The walk of the law package pentimentolaw15: works. -/
namespace Go.Proofs.YtndglfiepeefdaaGreat
open Go.RowKit Go.Conc

theorem lp_pin_ok {K : Foot} {w : World} {gd gl gp n : Nat} {L L' : List (Nat × Nat)} (h : LpAt K w gd gl gp n L) {k : Nat} (h1 : 1 ≤ k) (h6 : k ≤ 6) (hs : ∀ x ∈ L, x.2 < 1000000) (ha : Sp.aPin n L k = some L') :
    Calls Tryz.prog 11 #[ptr gp, u32v k] w fun e w' => ∃ A c, e = .returned (.tuple #[pgV (Sp.first k) A c, .int .i64 0]) ∧ OkAddr A ∧ RowsAt (fun b => w.heap.size ≤ b) w' A (Sp.first k).rows ∧ LpAt K w' gd gl gp n L' ∧ Kept K w w' := by
  refine (lp_pin h h1 h6 hs).mono ?_
  rintro e w' ⟨hk, (⟨ha', _⟩ | ⟨M, A, c, ha', rfl, hA, hR, hL⟩)⟩
  · rw [ha] at ha'; cases ha'
  · rw [ha] at ha'; injection ha' with e; subst e
    exact ⟨A, c, rfl, hA, hR, hL, hk⟩
theorem lp_pin_full {K : Foot} {w : World} {gd gl gp n : Nat} {L : List (Nat × Nat)} (h : LpAt K w gd gl gp n L) {k : Nat} (h1 : 1 ≤ k) (h6 : k ≤ 6) (hs : ∀ x ∈ L, x.2 < 1000000) (ha : Sp.aPin n L k = none) :
    Calls Tryz.prog 11 #[ptr gp, u32v k] w fun e w' => e = .returned (.tuple #[zeroPgV, .int .i64 4]) ∧ LpAt K w' gd gl gp n L ∧ Kept K w w' := by
  refine (lp_pin h h1 h6 hs).mono ?_
  rintro e w' ⟨hk, (⟨_, he, hL⟩ | ⟨M, A, c, ha', _⟩)⟩
  · exact ⟨he, hL, hk⟩
  · rw [ha] at ha'; cases ha'
/-- The block of the law's Play: its pool. -/
theorem play_cell {w : World} {gP gd gl gp gr : Nat} (h : Blk w gP 44 #[ptr gd, ptr gl, ptr gp, ptr gr]) : w.cell? ⟨gP, 2, none⟩ = some (ptr gp) := h.cell 2

set_option maxRecDepth 100000 in
set_option maxHeartbeats 1000000 in
theorem law_works (w : World) : Calls Tryz.prog 7 #[] w fun e w' => e = .returned (.bool true) ∧ Below w.heap.size w w' := by
  have HB := Lib.hid fun (W : World) => law_begun 2 (by omega) (by omega) W
  go_enter Tryz.func7, Tryz.ntmps7
  go_wp2_with fail
  refine (HB.out w).mono ?_
  rintro e w1 hpost
  obtain ⟨gP, gr, gd, gl, gp, rfl, hP, hb, hL⟩ := begun_lp hpost
  clear hpost HB
  have HL := Lib.hid hL
  have HP := Lib.hid hP
  have c2 := play_cell hP
  clear hL hP
  go_wp2_with fail
  refine (lp_pin_ok HL.out (k := 1) (by omega) (by omega) (by simp) (L' := [(1, 1)]) rfl).mono ?_
  rintro e w2 ⟨A, c, rfl, hA, hR, hL, hk⟩
  have HP2 := Lib.hid (HP.out.kept hk (.inr rfl))
  have hb2 := hb.trans (hk.below (fun b hb => .inl hb))
  have hl2 := Lib.hid hL
  clear c2 hA hR hL hk HL HP hb
  have c2 := play_cell HP2.out
  have hg := HP2.out.lt
  go_wp2_with fail
  refine (lp_pin_ok (hl2.out.below ((Below.refl _ w2).alloc (Nat.le_refl _) _)) (k := 2) (by omega) (by omega) (by simp) (L' := [(1, 1), (2, 1)]) rfl).mono ?_
  rintro e w3 ⟨A', c', rfl, hA, hR, hL, hk⟩
  have hk := (Kept.of_below ((Below.refl w2.heap.size w2).alloc (Nat.le_refl _) (.cells (pgCs (Sp.first 1) A c) 32)) hl2.out.lt).trans hk
  have HP3 := Lib.hid (HP2.out.kept hk (.inr rfl))
  have hb3 := hb2.trans (hk.below (fun b hb => .inl hb))
  have hl3 := Lib.hid hL
  clear c2 hA hR hL hk hl2 HP2 hb2 hg
  have c2 := play_cell HP3.out
  have hg := HP3.out.lt
  go_wp2_with fail
  refine (lp_pin_full (hl3.out.below ((Below.refl _ w3).alloc (Nat.le_refl _) _)) (k := 3) (by omega) (by omega) (by simp) rfl).mono ?_
  rintro e w4 ⟨rfl, hL, hk⟩
  have hk := (Kept.of_below ((Below.refl w3.heap.size w3).alloc (Nat.le_refl _) (.cells (pgCs (Sp.first 2) A' c') 32)) hl3.out.lt).trans hk
  have HP4 := Lib.hid (HP3.out.kept hk (.inr rfl))
  have hb4 := hb3.trans (hk.below (fun b hb => .inl hb))
  have hl4 := Lib.hid hL
  clear c2 hL hk hl3 HP3 hb3 hg
  have c2 := play_cell HP4.out
  have hg := HP4.out.lt
  go_wp2_with fail
  refine (lp_unpin (hl4.out.below ((Below.refl _ w4).alloc (Nat.le_refl _) _)) (k := 1) (m := 1) (by omega) (by simp) (by omega)).mono ?_
  rintro e w5 ⟨rfl, hk, hL⟩
  have hk := (Kept.of_below ((Below.refl w4.heap.size w4).alloc (Nat.le_refl _) (.cells zeroPgV.cells 32)) hl4.out.lt).trans hk
  have HP5 := Lib.hid (HP4.out.kept hk (.inr rfl))
  have hb5 := hb4.trans (hk.below (fun b hb => .inl hb))
  have hl5 := Lib.hid hL
  clear c2 hL hk hl4 HP4 hb4 hg
  have c2 := play_cell HP5.out
  go_wp2_with fail
  refine (lp_pin_ok (L := [(1, 0), (2, 1)]) hl5.out (k := 3) (by omega) (by omega) (by simp) (L' := [(2, 1), (3, 1)]) rfl).mono ?_
  rintro e w6 ⟨A6, c6, rfl, hA, hR, hL, hk⟩
  have HP6 := Lib.hid (HP5.out.kept hk (.inr rfl))
  have hb6 := hb5.trans (hk.below (fun b hb => .inl hb))
  have hl6 := Lib.hid hL
  clear c2 hL hk hl5 HP5 hb5
  have c2 := play_cell HP6.out
  have hg := HP6.out.lt
  go_wp2_with fail
  refine (lp_pages (hl6.out.below ((Below.refl _ w6).alloc (Nat.le_refl _) _)) (by omega)).mono ?_
  rintro e w7 ⟨v, rfl, hrow, hb7, hL⟩
  have es : Sp.sorted (List.map (·.1) [(2, 1), (3, 1)]) = [2, 3] :=
    List.Perm.eq_of_pairwise (le := fun a b => a ≤ b) (fun _ _ _ _ h1 h2 => Nat.le_antisymm h1 h2) (Sp.sorted_spec _).2 (by simp) (Sp.sorted_spec _).1
  rw [es] at hrow
  clear es
  have hb6' := (Below.refl w6.heap.size w6).alloc (Nat.le_refl _) (.cells (pgCs (Sp.first 3) A6 c6) 32)
  have hb67 : Below w6.heap.size w6 w7 := hb6'.trans (hb7.mono hb6'.size)
  have hB6 := (Blk.new w6 32 (pgCs (Sp.first 3) A6 c6)).below hb7 (by simp)
  have d2 := hB6.cell 2
  have hb8 := Lib.hid (hb6.trans (hb67.mono hb6.size))
  obtain ⟨g, cap, rfl, q0, q1⟩ : ∃ g cap, v = .slice (some ⟨g, 0, none⟩) 2 cap ∧ w7.cell? ⟨g, 0, none⟩ = some (.int .u32 2) ∧ w7.cell? ⟨g, 1, none⟩ = some (.int .u32 3) := by
    rcases hrow.2 with ⟨_, h0⟩ | ⟨g, cap, cur, rfl, _, _, _⟩
    · simp at h0
    · have hc := hrow.cells (g := g) rfl
      exact ⟨g, cap, rfl, hc 0 _ rfl, hc 1 _ rfl⟩
  clear hrow hb6' hb67 hb7 hb6 hB6 hL hA hR
  simp only [zGA, zGB, zGC] at d2
  go_wp2_with fail
  go_ret
  exact ⟨rfl, hb8.out⟩
end Go.Proofs.YtndglfiepeefdaaGreat

/- The walk of PoolPlays. -/
namespace Go.Proofs.YtndglfiepeefdaaGreat
open Go.RowKit Go.Conc

theorem le_sum_mem : ∀ (l : List Nat) (x : Nat), x ∈ l → x ≤ l.sum
  | [], _, h => by cases h
  | y :: l, x, h => by
    rw [List.sum_cons]
    rcases List.mem_cons.1 h with rfl | h
    · omega
    · have := le_sum_mem l x h
      omega
theorem total_le : ∀ (l : List Sp.Bs) (M : Nat), (∀ r ∈ l, r.length ≤ M) → Sp.total l ≤ l.length * M
  | [], _, _ => by simp [Sp.total]
  | r :: l, M, h => by
    have h1 := h r List.mem_cons_self
    have h2 := total_le l M (fun x hx => h x (List.mem_cons_of_mem _ hx))
    have e : Sp.total (r :: l) = r.length + Sp.total l := by simp [Sp.total]
    rw [e, List.length_cons, Nat.succ_mul]
    omega
set_option maxRecDepth 100000 in
set_option maxHeartbeats 40000000 in
theorem law_plays (f : Nat) (hf : f < 256) (A : Option Addr) (cap : Nat) (ls : List PAct) (hl : ls.length ≤ 140737488355328) (hok : ∀ a ∈ ls, a.hv.ok) (hb : ∀ a ∈ ls, a.Ok) (w : World) (hv : HvAt w A (ls.map PAct.hv)) (ha : PActAt w A ls) :
    Calls Tryz.prog 3 #[.int .u8 f, .slice A ls.length cap] w fun e w' => e = .returned (.bool true) ∧ Below w.heap.size w w' := by
  have HHV := Lib.hid (law_heavy A cap (ls.map PAct.hv) (by rw [List.length_map]; exact hl) (fun x hx => by
    obtain ⟨a, ha, rfl⟩ := List.mem_map.1 hx
    exact hok a ha) w hv)
  rw [List.length_map] at HHV
  have hfew : hvB (ls.map PAct.hv) = false → ls.length ≤ 60 ∧ ∀ a ∈ ls, a.row.length ≤ 4000 ∧ a.x.rows.length ≤ 1000 ∧ a.pages.length ≤ 4000 := fun h => by
    unfold hvB at h
    rw [Bool.or_eq_false_iff, decide_eq_false_iff_not, decide_eq_false_iff_not, List.length_map] at h
    refine ⟨by omega, fun a ha => ?_⟩
    have h2 := h.2
    rw [List.take_of_length_le (by rw [List.length_map]; omega)] at h2
    have h3 : a.hv.w ≤ hvSum (ls.map PAct.hv) := by
      unfold hvSum
      exact le_sum_mem _ _ (List.mem_map.2 ⟨a.hv, List.mem_map.2 ⟨a, ha, rfl⟩, rfl⟩)
    generalize hvSum (ls.map PAct.hv) = S at h2 h3
    unfold HvA.w PAct.hv at h3
    dsimp only at h3
    have e1 : (baOf a.row).size = a.row.length := by simp [baOf, ByteArray.size]
    rw [e1, List.length_map] at h3
    omega
  have HA := Lib.hid ha
  have HOK := Lib.hid hb
  have HW := Lib.hid fun (W : World) => law_works W
  obtain ⟨n, hn⟩ : ∃ n, n = 1 + f % 6 := ⟨_, rfl⟩
  have hn1 : 1 ≤ n := by omega
  have hn6 : n ≤ 6 := by omega
  have HB := Lib.hid fun (W : World) => law_begun_rows n hn1 (by omega) W
  have e1 := Lib.hid (show (1 : Int) + (f : Int) % 6 = (n : Int) by omega)
  clear hn hv ha hok hb
  generalize hvB (ls.map PAct.hv) = hz at *
  go_enter Tryz.func3, Tryz.ntmps3
  go_wp2_with fail
  refine HHV.out.mono ?_
  rintro e w1 ⟨rfl, hb1⟩
  clear HHV
  cases hz with
  | true =>
    clear hfew HB HA HOK e1
    go_wp2_with fail
    refine (HW.out w1).mono ?_
    rintro e w2 ⟨rfl, hb2⟩
    clear HW
    go_wp2_with fail
    go_ret
    exact ⟨rfl, hb1.trans (hb2.mono hb1.size)⟩
  | false =>
    obtain ⟨h60, hfew⟩ := hfew rfl
    have HFEW := Lib.hid hfew
    clear hfew
    go_wp2_with fail
    rw [e1.out]
    refine (HB.out w1).mono ?_
    rintro e w2 hpost
    obtain ⟨gP, gr, gd, gl, gp, G, rfl, hb2, hgP, hG, hpy⟩ := py_begun hpost
    clear hpost HB e1
    have HPY := Lib.hid hpy
    have HG := Lib.hid hG
    have HB2 := Lib.hid (hb1.trans (hb2.mono hb1.size))
    have hs1 := hb1.size
    clear hpy hG hb1 hb2
    go_wp2_with fail
    go_loopw [6] (fun v6 wr => ∃ (i : Nat) (l : Sp.Lg) (s : Sp.R15) (G : Foot), i ≤ ls.length ∧ v6 = .int .i64 i ∧ PyS w1.heap.size gP gd gl gp gr noFoot G l s s wr ∧ (∀ b, b < w1.heap.size → G b) ∧ s.le i ∧ s.frames ≤ 6 ∧ l.reserved = 0 ∧ l.next ≤ 110 + i * 4110 ∧ Below w.heap.size w wr) (fun v6 _ => ls.length - (intOf v6).toNat)
    case atStart => exact ⟨0, _, _, G, by omega, rfl, HPY.out, HG.out, fun x hx => by simp [Sp.begP] at hx, hn6, rfl, by show 110 ≤ _; omega, HB2.out⟩
    case round =>
      clear HPY HG HB2
      obtain ⟨i, l, s, G2, hi, rfl, hpy, hG, hle, hf6, hr0, hnx, hbr⟩ := hrel
      by_cases hlt : i < ls.length
      · obtain ⟨b, o, rfl, hbw, hcs⟩ := HA.out (by omega)
        obtain ⟨AX, cX, AP, cP, hNX, hRX, hNP, hRP, hc⟩ := hcs i _ (List.getElem?_eq_getElem hlt)
        have hao := HOK.out ls[i] (List.getElem_mem hlt)
        have haf := HFEW.out ls[i] (List.getElem_mem hlt)
        have hmeas : i + 1 ≤ ls.length := hlt
        generalize ls[i] = a at *
        have htot : Sp.total a.x.rows ≤ 1000000000000000000 := by
          have h1 := total_le a.x.rows 140737488355328 hao.rows
          have h2 := Nat.mul_le_mul_right 140737488355328 haf.2.1
          omega
        have hkc : ∀ j, j < 11 → wr.cell? ⟨b, o + i * 11 + j, none⟩ = (a.cs AX cX AP cP)[j]? := fun j hj => (hbr.cell (p := ⟨b, o + i * 11 + j, none⟩) hbw).trans (hc j hj)
        have k0 := hkc 0 (by omega)
        have k1 := hkc 1 (by omega)
        have k2 := hkc 2 (by omega)
        have k3 := hkc 3 (by omega)
        have k4 := hkc 4 (by omega)
        have k5 := hkc 5 (by omega)
        have k6 := hkc 6 (by omega)
        have k7 := hkc 7 (by omega)
        have k8 := hkc 8 (by omega)
        have k9 := hkc 9 (by omega)
        have k10 := hkc 10 (by omega)
        simp only [PAct.cs, zGA, zGB, zGC, Nat.add_zero] at k0 k1 k2 k3 k4 k5 k6 k7 k8 k9 k10
        have hGw : ∀ b, b < w.heap.size → G2 b := fun b hb => hG b (by omega)
        have HD := Lib.hid (law15_does hpy hle (by omega) hf6 (by omega) (by omega) hao.do_ hao.page hao.x (by omega) (by omega) htot (by omega) hao.pages hNX ((Reads.below hRX hbr).mono hGw) hNP ((Reads.below hRP hbr).mono hGw) (AP := AP) (cP := cP))
        have HG2 := Lib.hid hG
        have HBR := Lib.hid hbr
        clear hpy hle hNX hRX hNP hRP hc hkc hcs hao haf hG hbr hGw hi
        go_wp2_with fail
        refine HD.out.mono ?_
        rintro e w3 ⟨rfl, G3, l3, s3, hG3, hpy3, hle3, hf3, hn3, hr3, hx3, hk3⟩
        clear k0 k1 k2 k3 k4 k5 k6 k7 k8 k9 k10 HD
        have hb3 : Below w.heap.size w w3 := HBR.out.trans ⟨hk3.os, hk3.tape, hk3.output, hk3.size, fun b hb => hk3.block b (.inr (.inl (HG2.out b (by omega))))⟩
        have HST := Lib.hid (law15_stands hpy3 (hpy3.ok hle3 (by omega)) (by omega))
        have H3 := Lib.hid hpy3
        have HG3 := Lib.hid (show ∀ b, b < w1.heap.size → G3 b from fun b hb => hG3 b (HG2.out b hb))
        have HLE := Lib.hid hle3
        have HB3 := Lib.hid hb3
        have hf7 : s3.frames ≤ 6 := by omega
        clear hpy3 hG3 hle3 hk3 hb3
        go_wp2_with fail
        refine HST.out.mono ?_
        rintro e w4 ⟨rfl, hb4⟩
        have H4 := Lib.hid ((H3.out.below hb4).less (O' := noFoot) (fun b hb => hb.elim))
        have HB4 := Lib.hid (HB3.out.trans (hb4.mono HB3.out.size))
        clear HST hb4
        go_wp2_with fail
        go_roundw
        case rel => exact ⟨i + 1, l3, s3, G3, hmeas, by go_num, H4.out, HG3.out, HLE.out, hf7, by omega, by omega, HB4.out⟩
        case measure => simp [intOf]; omega
      · obtain rfl : i = ls.length := by omega
        have HBR := Lib.hid hbr
        clear hpy hG hle hbr
        go_wp2_with fail
        refine (HW.out wr).mono ?_
        rintro e w9 ⟨rfl, hb9⟩
        have hbz : Below w.heap.size w w9 := HBR.out.trans (hb9.mono HBR.out.size)
        go_wp2_with fail
        go_ret
        exact ⟨rfl, hbz⟩
end Go.Proofs.YtndglfiepeefdaaGreat
