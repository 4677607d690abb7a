/- The walks of the law packages pentimentolaw08 and pentimentolaw18: Leaf, Inner, leaf, inner: pages of rows, pages of entries. -/
import Derived.Test.YtafopojibpifoaaGreatMAG
import Derived.Test.YtafopojibpifoaaGreatMAJ
import Derived.Test.YtafopojibpifoaaGreatMAI
import Derived.Test.YtafopojibpifoaaGreatMAD
import Derived.Test.YtafopojibpifoaaGreatMAC
import Derived.Laws.ResultCell

namespace Go.Proofs.YtafopojibpifoaaGreat
open Go.RowKit Go.Conc

theorem Reads.in_ {G : Foot} {w : World} {size : Nat} {A : Option Addr} {n : Nat} {xs : List Value} (h : Reads G w size A n xs) : Reads (fun b => G b ∧ b < w.heap.size) w size A n xs :=
  ⟨h.1, fun hn => by
    obtain ⟨b, o, e, hg, hl, hc⟩ := h.2 hn
    exact ⟨b, o, e, ⟨hg, hl⟩, hl, hc⟩⟩
theorem cellsOf_get {α : Type} (f : α → List Value) (k : Nat) (hf : ∀ x, (f x).length = k) : ∀ (l : List α) (i j : Nat) (h : i < l.length), j < k → (l.flatMap f)[i * k + j]? = (f l[i])[j]?
  | [], i, j, h, _ => by simp at h
  | x :: l, 0, j, h, hj => by
    rw [Nat.zero_mul, Nat.zero_add, List.flatMap_cons, List.getElem?_append_left (by rw [hf]; omega)]; rfl
  | x :: l, i + 1, j, h, hj => by
    rw [List.flatMap_cons, List.getElem?_append_right (by rw [hf, Nat.succ_mul]; omega), hf]
    have e : (i + 1) * k + j - k = i * k + j := by rw [Nat.succ_mul]; omega
    rw [e, cellsOf_get f k hf l i j (by simpa using h) hj]; rfl
theorem cellsOf_length {α : Type} (f : α → List Value) (k : Nat) (hf : ∀ x, (f x).length = k) : ∀ (l : List α), (l.flatMap f).length = l.length * k
  | [] => by simp
  | x :: l => by rw [List.flatMap_cons, List.length_append, hf, cellsOf_length f k hf l, List.length_cons, Nat.succ_mul]; omega
/-- Rows in memory; entries. -/
abbrev RwsAt (G : Foot) (w : World) (A : Option Addr) (l : List Sp.Rw) : Prop := Reads G w 7 A l.length (l.flatMap rwCs)
abbrev EnsAt (G : Foot) (w : World) (A : Option Addr) (l : List Sp.En) : Prop := Reads G w 2 A l.length (l.flatMap enCs)
theorem RwsAt.cells {G : Foot} {w : World} {A : Option Addr} {l : List Sp.Rw} (h : RwsAt G w A l) {i : Nat} (hi : i < l.length) : ∃ b o, A = some ⟨b, o, none⟩ ∧ b < w.heap.size ∧ w.cell? ⟨b, o + i * 7, none⟩ = some (str l[i].key) ∧ w.cell? ⟨b, o + i * 7 + 1, none⟩ = some (.bool l[i].mark) ∧ w.cell? ⟨b, o + i * 7 + 2, none⟩ = some (.int .u64 l[i].tx) ∧
    w.cell? ⟨b, o + i * 7 + 3, none⟩ = some (.int .u32 l[i].page) ∧ w.cell? ⟨b, o + i * 7 + 4, none⟩ = some (.int .u16 l[i].slot) ∧ w.cell? ⟨b, o + i * 7 + 5, none⟩ = some (str l[i].value) ∧ w.cell? ⟨b, o + i * 7 + 6, none⟩ = some (.int .i64 l[i].pad) := by
  obtain ⟨b, o, rfl, _, hb, hc⟩ := h.2 (by omega)
  have key : ∀ j (hj : j < 7), w.cell? ⟨b, o + i * 7 + j, none⟩ = (rwCs l[i])[j]? := fun j hj => by
    have e := cellsOf_get rwCs 7 (fun _ => rfl) l i j hi hj
    have hx : (rwCs l[i])[j]? = some ((rwCs l[i])[j]'(by simpa using hj)) := List.getElem?_eq_getElem _
    rw [hx] at e ⊢
    have := hc (i * 7 + j) _ e
    rw [← Nat.add_assoc] at this; exact this
  exact ⟨b, o, rfl, hb, key 0 (by omega), key 1 (by omega), key 2 (by omega), key 3 (by omega), key 4 (by omega), key 5 (by omega), key 6 (by omega)⟩
theorem EnsAt.cells {G : Foot} {w : World} {A : Option Addr} {l : List Sp.En} (h : EnsAt G w A l) {i : Nat} (hi : i < l.length) : ∃ b o, A = some ⟨b, o, none⟩ ∧ b < w.heap.size ∧ w.cell? ⟨b, o + i * 2, none⟩ = some (str l[i].key) ∧ w.cell? ⟨b, o + i * 2 + 1, none⟩ = some (.int .u32 l[i].child) := by
  obtain ⟨b, o, rfl, _, hb, hc⟩ := h.2 (by omega)
  have key : ∀ j (hj : j < 2), w.cell? ⟨b, o + i * 2 + j, none⟩ = (enCs l[i])[j]? := fun j hj => by
    have e := cellsOf_get enCs 2 (fun _ => rfl) l i j hi hj
    have hx : (enCs l[i])[j]? = some ((enCs l[i])[j]'(by simpa using hj)) := List.getElem?_eq_getElem _
    rw [hx] at e ⊢
    have := hc (i * 2 + j) _ e
    rw [← Nat.add_assoc] at this; exact this
  exact ⟨b, o, rfl, hb, key 0 (by omega), key 1 (by omega)⟩

/-- A page is handed back, its rows in new blocks. -/
def PgPost (w : World) (p : Sp.Pg) (e : Ending) (w' : World) : Prop :=
  ∃ A c, e = .returned (pgV p A c) ∧ OkAddr A ∧ RowsAt (fun b => w.heap.size ≤ b) w' A p.rows ∧ Below w.heap.size w w'
/-- While rows come to it. -/
def LeafAt (w : World) (hd : Sp.Pg) (bs : List Sp.Bs) (wr : World) : Prop :=
  ∃ v, wr.ownsRow (w.heap.size + 1 + 1) 9 1 v bs.length (rcs bs) ∧ Blk wr (w.heap.size + 1) 51 #[.int .u8 hd.kind, .int .u8 hd.level, .int .u32 hd.id, .int .u64 hd.lsn, .int .u32 hd.next, v] ∧
    Blk wr w.heap.size 51 #[.int .u8 0, .int .u8 0, .int .u32 0, .int .u64 0, .int .u32 0, .slice none 0 0] ∧ Below w.heap.size w wr ∧ w.heap.size + 1 + 1 ≤ wr.heap.size
theorem leafAt_0 (w : World) (k lv id nx : Int) (hd : Sp.Pg) (h1 : k = hd.kind) (h2 : lv = hd.level) (h3 : id = hd.id) (h4 : hd.lsn = 0) (h5 : nx = hd.next) :
    LeafAt w hd [] ((w.alloc (.cells #[.int .u8 0, .int .u8 0, .int .u32 0, .int .u64 0, .int .u32 0, .slice none 0 0] 51)).alloc (.cells #[.int .u8 k, .int .u8 lv, .int .u32 id, .int .u64 0, .int .u32 nx, .slice none 0 0] 51)) := by
  subst h1 h2 h3 h5
  have hb := ((Below.refl w.heap.size w).alloc (Nat.le_refl _) (.cells #[.int .u8 0, .int .u8 0, .int .u32 0, .int .u64 0, .int .u32 0, .slice none 0 0] 51)).alloc (by simp) (.cells #[.int .u8 hd.kind, .int .u8 hd.level, .int .u32 hd.id, .int .u64 0, .int .u32 hd.next, .slice none 0 0] 51)
  have h1 := (Blk.new w 51 #[.int .u8 0, .int .u8 0, .int .u32 0, .int .u64 0, .int .u32 0, .slice none 0 0]).alloc (.cells #[.int .u8 hd.kind, .int .u8 hd.level, .int .u32 hd.id, .int .u64 0, .int .u32 hd.next, .slice none 0 0] 51)
  have h2 := Blk.new (w.alloc (.cells #[.int .u8 0, .int .u8 0, .int .u32 0, .int .u64 0, .int .u32 0, .slice none 0 0] 51)) 51 #[.int .u8 hd.kind, .int .u8 hd.level, .int .u32 hd.id, .int .u64 0, .int .u32 hd.next, .slice none 0 0]
  simp only [World.size_alloc] at h2
  refine ⟨_, World.ownsRow_nil _ _ _ _, ?_, h1, hb, by simp⟩
  rw [h4]; exact h2
theorem LeafAt.below {w : World} {hd : Sp.Pg} {bs : List Sp.Bs} {wr w' : World} (h : LeafAt w hd bs wr) (hb : Below wr.heap.size wr w') : LeafAt w hd bs w' := by
  obtain ⟨v, h1, h2, h3, h4, h5⟩ := h
  exact ⟨v, row_keep' h1 (fun b hb' => hb.block b (h1.lt b hb').2), h2.below hb h2.lt, h3.below hb h3.lt, h4.trans (hb.mono h4.size), Nat.le_trans h5 hb.size⟩
/-- One more has come. -/
theorem LeafAt.more {w : World} {hd : Sp.Pg} {bs : List Sp.Bs} {v v' : Value} {wr w' : World} {x : Sp.Bs} {n : Nat} (hn : bs.length = n) (h1 : wr.ownsRow (w.heap.size + 1 + 1) 9 1 v n (rcs bs)) (h2 : Blk wr (w.heap.size + 1) 51 #[.int .u8 hd.kind, .int .u8 hd.level, .int .u32 hd.id, .int .u64 hd.lsn, .int .u32 hd.next, v])
    (h3 : Blk wr w.heap.size 51 #[.int .u8 0, .int .u8 0, .int .u32 0, .int .u64 0, .int .u32 0, .slice none 0 0]) (h4 : Below w.heap.size w wr) (h5 : w.heap.size + 1 + 1 ≤ wr.heap.size)
    (q1 : w'.ownsRow (w.heap.size + 1 + 1) 9 1 v' (n + 1) (rcs bs ++ [str x])) (q2 : wr.grownBy w' v.ownBlock) : LeafAt w hd (bs ++ [x]) (w'.setCell ⟨w.heap.size + 1, 5, none⟩ v') := by
  subst hn
  have hr : ∀ r, v.ownBlock = some r → w.heap.size + 1 + 1 ≤ r := fun r e => row_base h1 e
  have h2' := h2.grown q2 (fun e => by have := hr _ e.symm; omega)
  have h3' := (h3.grown q2 (fun e => by have := hr _ e.symm; omega)).far (p := ⟨w.heap.size + 1, 5, none⟩) (by show w.heap.size ≠ w.heap.size + 1; omega) v'
  have h2'' := h2'.set_ 5 v'
  refine ⟨v', ?_, h2'', h3', (h4.grown q2 h4.size (fun r e => by have := hr r e; omega)).setCell (p := ⟨w.heap.size + 1, 5, none⟩) (by show w.heap.size ≤ w.heap.size + 1; omega) v', ?_⟩
  · have e : rcs (bs ++ [x]) = rcs bs ++ [str x] := by simp [rcs]
    rw [e, List.length_append]
    exact row_keep' q1 (fun b hb => Below.heap_setCell w' _ _ b (fun e => by have := row_base q1 hb; have e : b = w.heap.size + 1 := e; omega))
  · have := q2.size; simp; omega
/-- All have come: the page. -/
theorem LeafAt.fin {w : World} {hd : Sp.Pg} {bs : List Sp.Bs} {wr : World} (h : LeafAt w hd bs wr) : ∃ A c, OkAddr A ∧ Blk wr (w.heap.size + 1) 51 #[.int .u8 hd.kind, .int .u8 hd.level, .int .u32 hd.id, .int .u64 hd.lsn, .int .u32 hd.next, .slice A bs.length c] ∧
    Blk wr w.heap.size 51 #[.int .u8 0, .int .u8 0, .int .u32 0, .int .u64 0, .int .u32 0, .slice none 0 0] ∧ RowsAt (fun b => w.heap.size < b) wr A bs ∧ Below w.heap.size w wr := by
  obtain ⟨v, h1, h2, h3, h4, h5⟩ := h
  obtain ⟨A, c, rfl, hA, hR⟩ := own_rows h1
  exact ⟨A, c, hA, h2, h3, hR.mono (fun b hb => by have hb : w.heap.size + 1 + 1 ≤ b := hb; show w.heap.size < b; omega), h4⟩

set_option maxRecDepth 100000 in
set_option maxHeartbeats 4000000 in
theorem law08_leaf {w : World} {G : Foot} {l : List Sp.Rw} {A : Option Addr} {cap : Nat} (hR : RwsAt G w A l) (hok : ∀ r ∈ l, r.may ∧ r.wf) (hl : l.length ≤ 1000000) :
    Calls Tryz.prog 38 #[.slice A l.length cap] w (PgPost w ⟨1, 0, 5, 0, 9, l.map Sp.Rw.bytes⟩) := by
  obtain ⟨is, his, hs0, hs1, hs2⟩ := info_parts str_info
  have HR := Lib.hid hR
  have HOK := Lib.hid hok
  have HEN := Lib.hid fun (r : Sp.Rw) (h : r.may ∧ r.wf) (W : World) => ref07_encodeP r h.1 h.2 W
  clear hR hok
  go_enter Tryz.func38, Tryz.ntmps38
  go_wp2_with fail
  have H0 := Lib.hid (leafAt_0 w 1 0 5 9 ⟨1, 0, 5, 0, 9, []⟩ rfl rfl rfl rfl rfl)
  go_loopw [4] (fun i wr => ∃ m : Nat, m ≤ l.length ∧ i = .int .i64 m ∧ LeafAt w ⟨1, 0, 5, 0, 9, []⟩ ((l.take m).map Sp.Rw.bytes) wr) (fun i _ => l.length - (intOf i).toNat)
  case atStart => exact ⟨0, by omega, rfl, H0.out⟩
  case round =>
    clear H0
    obtain ⟨m, hm, rfl, hL⟩ := hrel
    by_cases hlt : m < l.length
    · have hbr : Below w.heap.size w wr := hL.fin.choose_spec.choose_spec.2.2.2.2
      obtain ⟨b, o, rfl, hbl, c0, c1, c2, c3, c4, c5, c6⟩ := RwsAt.cells (HR.out.below hbr) hlt
      have hts : (l.take (m + 1)).map Sp.Rw.bytes = (l.take m).map Sp.Rw.bytes ++ [l[m].bytes] := by rw [List.take_succ_eq_append_getElem hlt, List.map_append]; rfl
      have HTS := Lib.hid hts
      have HE := Lib.hid (HEN.out l[m] (HOK.out _ (List.getElem_mem hlt)) wr)
      have hlen : ((l.take m).map Sp.Rw.bytes).length = m := by simp; omega
      have HLEN := Lib.hid hlen
      have HL := Lib.hid hL
      clear hts hL hlen
      generalize l[m] = r at *
      generalize List.map Sp.Rw.bytes (List.take m l) = bs at *
      go_wp2_with fail
      refine HE.out.mono ?_
      rintro e w2 ⟨rfl, hb2⟩
      obtain ⟨v, h1, h2, h3, h4, h5⟩ := HL.out.below hb2
      have x5 := h2.cell 5
      simp only [List.getElem?_toArray, List.getElem?_cons_succ, List.getElem?_cons_zero] at x5
      rw [HLEN.out] at h1
      have hsz : w.heap.size + 1 + 1 ≤ w2.heap.size := h5
      have HO := Lib.hid h1
      have H2 := Lib.hid h2
      have H3 := Lib.hid h3
      have H4 := Lib.hid h4
      clear HE HL hb2 h1 h2 h3 h4 h5 c0 c1 c2 c3 c4 c5 c6 hbr
      go_wp2_with (at_builtin; refine wpList_app1 rfl _ _ 49 rfl (w.heap.size + 1 + 1) 9 is _ 16 Tryz.underlying49 his hs0 hs1 hs2 rfl _ _ _ rfl HO.out (str r.bytes) rfl rfl (by unfold maxLen; omega) (by omega) hsz ?_)
      intro v' w3 q1 q2 q3
      obtain ⟨g', c', rfl⟩ := own_form' q1 (by omega)
      have hB3 := H2.out.grown q2 (fun e => by have := row_base HO.out e.symm; omega)
      have x5 := hB3.cell 5
      have f5 := hB3.frozen 5
      simp only [List.getElem?_toArray, List.getElem?_cons_succ, List.getElem?_cons_zero] at x5
      have HF := Lib.hid (LeafAt.more (hd := ⟨1, 0, 5, 0, 9, []⟩) (x := r.bytes) HLEN.out HO.out H2.out H3.out H4.out hsz q1 q2)
      clear hB3 q1 q2 q3 HO H2 H3 H4
      go_wp2_with fail
      go_roundw
      case rel => exact ⟨m + 1, hlt, by go_num, by rw [HTS.out]; exact HF.out⟩
      case measure => simp [intOf]; omega
    · obtain rfl : m = l.length := by omega
      rw [List.take_length] at hL
      obtain ⟨A', c', hA, h2, h3, hRR, hb⟩ := hL.fin
      rw [List.length_map] at h2
      obtain ⟨q0, q1, q2, q3, q4, q5⟩ := page_cells h2
      have hB := h3.setRow #[.int .u8 1, .int .u8 0, .int .u32 5, .int .u64 0, .int .u32 9, .slice A' l.length c']
      have hRR' : RowsAt (fun b => w.heap.size ≤ b) (wr.setRow w.heap.size #[.int .u8 1, .int .u8 0, .int .u32 5, .int .u64 0, .int .u32 9, .slice A' l.length c']) A' (l.map Sp.Rw.bytes) := (hRR.keep (w' := wr.setRow w.heap.size #[.int .u8 1, .int .u8 0, .int .u32 5, .int .u64 0, .int .u32 9, .slice A' l.length c']) (by simp) (fun b hb => heap_setRow_other _ _ _ _ (Nat.ne_of_gt hb))).mono (fun b hb => Nat.le_of_lt hb)
      have hb' := below_setRow hb (Nat.le_refl w.heap.size) #[.int .u8 1, .int .u8 0, .int .u32 5, .int .u64 0, .int .u32 9, .slice A' l.length c']
      have HRR := Lib.hid hRR'
      have HB := Lib.hid hB
      have HBE := Lib.hid hb'
      have HA := Lib.hid hA
      have H3 := Lib.hid h3
      clear hB hRR hRR' hb hb' h2 h3 hA hL
      go_wp2_with (refine wpList_store_part rfl _ _ _ rfl w.heap.size 0 #[.int .u8 1, .int .u8 0, .int .u32 5, .int .u64 0, .int .u32 9, .slice A' l.length c'] rfl rfl _ _ H3.out page_size (by show 0 + 6 ≤ 6; omega) (by simp [Value.oneCell']) ?_)
      change bodyPost _ _ _ _ _ (wr.setRow w.heap.size #[.int .u8 1, .int .u8 0, .int .u32 5, .int .u64 0, .int .u32 9, .slice A' l.length c'])
      exact bodyPost_ret (v := .agg #[.int .u8 1, .int .u8 0, .int .u32 5, .int .u64 0, .int .u32 9, .slice A' l.length c']) (results_cell_row rfl _ _ w.heap.size 51 _ (0, 0) _ rfl HB.out Tryz.underlying51 rfl rfl) rfl ⟨A', c', by simp, HA.out, HRR.out, HBE.out⟩
set_option maxRecDepth 100000 in
set_option maxHeartbeats 4000000 in
theorem law08_inner {w : World} {G : Foot} {l : List Sp.En} {A : Option Addr} {cap : Nat} (hR : EnsAt G w A l) (hok : ∀ r ∈ l, r.may) (hl : l.length ≤ 1000000) :
    Calls Tryz.prog 37 #[.slice A l.length cap] w (PgPost w ⟨2, 1, 6, 0, 0, l.map Sp.En.bytes⟩) := by
  obtain ⟨is, his, hs0, hs1, hs2⟩ := info_parts str_info
  have HR := Lib.hid hR
  have HOK := Lib.hid hok
  have HEN := Lib.hid fun (r : Sp.En) (h : r.may) (W : World) => ref07_encodeEntry r h W
  clear hR hok
  go_enter Tryz.func37, Tryz.ntmps37
  go_wp2_with fail
  have H0 := Lib.hid (leafAt_0 w 2 1 6 0 ⟨2, 1, 6, 0, 0, []⟩ rfl rfl rfl rfl rfl)
  go_loopw [4] (fun i wr => ∃ m : Nat, m ≤ l.length ∧ i = .int .i64 m ∧ LeafAt w ⟨2, 1, 6, 0, 0, []⟩ ((l.take m).map Sp.En.bytes) wr) (fun i _ => l.length - (intOf i).toNat)
  case atStart => exact ⟨0, by omega, rfl, H0.out⟩
  case round =>
    clear H0
    obtain ⟨m, hm, rfl, hL⟩ := hrel
    by_cases hlt : m < l.length
    · have hbr : Below w.heap.size w wr := hL.fin.choose_spec.choose_spec.2.2.2.2
      obtain ⟨b, o, rfl, hbl, c0, c1⟩ := EnsAt.cells (HR.out.below hbr) hlt
      have hts : (l.take (m + 1)).map Sp.En.bytes = (l.take m).map Sp.En.bytes ++ [l[m].bytes] := by rw [List.take_succ_eq_append_getElem hlt, List.map_append]; rfl
      have HTS := Lib.hid hts
      have HE := Lib.hid (HEN.out l[m] (HOK.out _ (List.getElem_mem hlt)) wr)
      have hlen : ((l.take m).map Sp.En.bytes).length = m := by simp; omega
      have HLEN := Lib.hid hlen
      have HL := Lib.hid hL
      clear hts hL hlen
      generalize l[m] = r at *
      generalize List.map Sp.En.bytes (List.take m l) = bs at *
      go_wp2_with fail
      refine HE.out.mono ?_
      rintro e w2 ⟨rfl, hb2⟩
      obtain ⟨v, h1, h2, h3, h4, h5⟩ := HL.out.below hb2
      have x5 := h2.cell 5
      simp only [List.getElem?_toArray, List.getElem?_cons_succ, List.getElem?_cons_zero] at x5
      rw [HLEN.out] at h1
      have hsz : w.heap.size + 1 + 1 ≤ w2.heap.size := h5
      have HO := Lib.hid h1
      have H2 := Lib.hid h2
      have H3 := Lib.hid h3
      have H4 := Lib.hid h4
      clear HE HL hb2 h1 h2 h3 h4 h5 c0 c1 hbr
      go_wp2_with (at_builtin; refine wpList_app1 rfl _ _ 49 rfl (w.heap.size + 1 + 1) 9 is _ 16 Tryz.underlying49 his hs0 hs1 hs2 rfl _ _ _ rfl HO.out (str r.bytes) rfl rfl (by unfold maxLen; omega) (by omega) hsz ?_)
      intro v' w3 q1 q2 q3
      obtain ⟨g', c', rfl⟩ := own_form' q1 (by omega)
      have hB3 := H2.out.grown q2 (fun e => by have := row_base HO.out e.symm; omega)
      have x5 := hB3.cell 5
      have f5 := hB3.frozen 5
      simp only [List.getElem?_toArray, List.getElem?_cons_succ, List.getElem?_cons_zero] at x5
      have HF := Lib.hid (LeafAt.more (hd := ⟨2, 1, 6, 0, 0, []⟩) (x := r.bytes) HLEN.out HO.out H2.out H3.out H4.out hsz q1 q2)
      clear hB3 q1 q2 q3 HO H2 H3 H4
      go_wp2_with fail
      go_roundw
      case rel => exact ⟨m + 1, hlt, by go_num, by rw [HTS.out]; exact HF.out⟩
      case measure => simp [intOf]; omega
    · obtain rfl : m = l.length := by omega
      rw [List.take_length] at hL
      obtain ⟨A', c', hA, h2, h3, hRR, hb⟩ := hL.fin
      rw [List.length_map] at h2
      obtain ⟨q0, q1, q2, q3, q4, q5⟩ := page_cells h2
      have hB := h3.setRow #[.int .u8 2, .int .u8 1, .int .u32 6, .int .u64 0, .int .u32 0, .slice A' l.length c']
      have hRR' : RowsAt (fun b => w.heap.size ≤ b) (wr.setRow w.heap.size #[.int .u8 2, .int .u8 1, .int .u32 6, .int .u64 0, .int .u32 0, .slice A' l.length c']) A' (l.map Sp.En.bytes) := (hRR.keep (w' := wr.setRow w.heap.size #[.int .u8 2, .int .u8 1, .int .u32 6, .int .u64 0, .int .u32 0, .slice A' l.length c']) (by simp) (fun b hb => heap_setRow_other _ _ _ _ (Nat.ne_of_gt hb))).mono (fun b hb => Nat.le_of_lt hb)
      have hb' := below_setRow hb (Nat.le_refl w.heap.size) #[.int .u8 2, .int .u8 1, .int .u32 6, .int .u64 0, .int .u32 0, .slice A' l.length c']
      have HRR := Lib.hid hRR'
      have HB := Lib.hid hB
      have HBE := Lib.hid hb'
      have HA := Lib.hid hA
      have H3 := Lib.hid h3
      clear hB hRR hRR' hb hb' h2 h3 hA hL
      go_wp2_with (refine wpList_store_part rfl _ _ _ rfl w.heap.size 0 #[.int .u8 2, .int .u8 1, .int .u32 6, .int .u64 0, .int .u32 0, .slice A' l.length c'] rfl rfl _ _ H3.out page_size (by show 0 + 6 ≤ 6; omega) (by simp [Value.oneCell']) ?_)
      change bodyPost _ _ _ _ _ (wr.setRow w.heap.size #[.int .u8 2, .int .u8 1, .int .u32 6, .int .u64 0, .int .u32 0, .slice A' l.length c'])
      exact bodyPost_ret (v := .agg #[.int .u8 2, .int .u8 1, .int .u32 6, .int .u64 0, .int .u32 0, .slice A' l.length c']) (results_cell_row rfl _ _ w.heap.size 51 _ (0, 0) _ rfl HB.out Tryz.underlying51 rfl rfl) rfl ⟨A', c', by simp, HA.out, HRR.out, HBE.out⟩

set_option maxRecDepth 100000 in
set_option maxHeartbeats 4000000 in
theorem law18_leaf (id next : Nat) {w : World} {G : Foot} {l : List Sp.Rw} {A : Option Addr} {cap : Nat} (hR : RwsAt G w A l) (hok : ∀ r ∈ l, r.may ∧ r.wf) (hl : l.length ≤ 1000000) :
    Calls Tryz.prog 21 #[u32v id, u32v next, .slice A l.length cap] w (PgPost w ⟨1, 0, id, 0, next, l.map Sp.Rw.bytes⟩) := by
  have hb1 := (Below.refl w.heap.size w).alloc (Nat.le_refl _) (.cells #[.int .u8 0, .int .u8 0, .int .u32 0, .int .u64 0, .int .u32 0, .slice none 0 0] 51)
  have hB1 := Blk.new w 51 #[.int .u8 0, .int .u8 0, .int .u32 0, .int .u64 0, .int .u32 0, .slice none 0 0]
  have H := Lib.hid (law08_leaf (cap := cap) (hR.below hb1) hok hl)
  clear hR hok
  go_enter Tryz.func21, Tryz.ntmps21
  go_wp2_with fail
  refine H.out.mono ?_
  rintro e w2 ⟨A', c, rfl, hA, hRR, hb2⟩
  have hb12 := hb1.trans (hb2.mono hb1.size)
  have hB2 := hB1.below hb2 hB1.lt
  have hR2 : RowsAt (fun b => w.heap.size < b) w2 A' (l.map Sp.Rw.bytes) := hRR.mono (fun b hb => by
    have hb : (w.alloc (.cells #[.int .u8 0, .int .u8 0, .int .u32 0, .int .u64 0, .int .u32 0, .slice none 0 0] 51)).heap.size ≤ b := hb
    rw [World.size_alloc] at hb
    exact hb)
  have hs := hB2.lt
  have hb3 := (Below.refl w2.heap.size w2).alloc (Nat.le_refl _) (.cells #[.int .u8 1, .int .u8 0, .int .u32 5, .int .u64 0, .int .u32 9, .slice A' l.length c] 51)
  have hB3 := Blk.new w2 51 #[.int .u8 1, .int .u8 0, .int .u32 5, .int .u64 0, .int .u32 9, .slice A' l.length c]
  have hB3' := hB2.below hb3 hB2.lt
  have hR3 := Reads.below (Reads.in_ hR2) hb3
  have hb13 := hb12.trans (hb3.mono hb12.size)
  have HA := Lib.hid hA
  clear hB1 hb1 hb2 hb12 hRR hR2 hB2 hb3 H hA
  go_upto_region 2 with fail
  change Code.wp _ _ _ _ (w2.alloc (.cells #[.int .u8 1, .int .u8 0, .int .u32 5, .int .u64 0, .int .u32 9, .slice A' l.length c] 51))
  obtain ⟨g, hg⟩ : ∃ g, g = w2.heap.size := ⟨_, rfl⟩
  generalize hw3 : World.alloc w2 _ = w3 at hB3 hB3' hR3 hb13 ⊢
  rw [← hg] at hB3 hs hR3 ⊢
  clear hw3 hg
  have c2 := hB3.cell 2
  have f2 := hB3.frozen 2
  have hB4 : Blk (w3.setCell ⟨g, 2, none⟩ (.int .u32 id)) g 51 #[.int .u8 1, .int .u8 0, .int .u32 id, .int .u64 0, .int .u32 9, .slice A' l.length c] := hB3.set_ 2 (.int .u32 id)
  have c4 := hB4.cell 4
  have f4 := hB4.frozen 4
  have hB5 : Blk ((w3.setCell ⟨g, 2, none⟩ (.int .u32 id)).setCell ⟨g, 4, none⟩ (.int .u32 next)) g 51 #[.int .u8 1, .int .u8 0, .int .u32 id, .int .u64 0, .int .u32 next, .slice A' l.length c] := hB4.set_ 4 (.int .u32 next)
  simp only [List.getElem?_toArray, List.getElem?_cons_succ, List.getElem?_cons_zero] at c2 c4
  obtain ⟨q0, q1, q2, q3, q4, q5⟩ := page_cells hB5
  have hne : w.heap.size ≠ g := Nat.ne_of_lt hs
  have hB5' := (hB3'.far (p := ⟨g, 2, none⟩) hne (.int .u32 id)).far (p := ⟨g, 4, none⟩) hne (.int .u32 next)
  have hb5 := (hb13.setCell (p := ⟨g, 2, none⟩) (Nat.le_of_lt hs) (.int .u32 id)).setCell (p := ⟨g, 4, none⟩) (Nat.le_of_lt hs) (.int .u32 next)
  have hR5 : RowsAt (fun b => w.heap.size < b ∧ b < g) ((w3.setCell ⟨g, 2, none⟩ (.int .u32 id)).setCell ⟨g, 4, none⟩ (.int .u32 next)) A' (l.map Sp.Rw.bytes) := Reads.keep hR3 (by simp) (fun b hb => (Below.heap_setCell _ _ _ b (fun e => by have e : b = g := e; have := hb.2; omega)).trans (Below.heap_setCell _ _ _ b (fun e => by have e : b = g := e; have := hb.2; omega)))
  have HB5' := Lib.hid hB5'
  have HR5 := Lib.hid hR5
  have HBE := Lib.hid hb5
  clear hB3 hB3' hR3 hb13 hB4 hB5 hB5' hR5 hb5
  go_wp2_with (refine wpList_store_part rfl _ _ _ rfl w.heap.size 0 #[.int .u8 1, .int .u8 0, .int .u32 id, .int .u64 0, .int .u32 next, .slice A' l.length c] rfl rfl _ _ HB5'.out page_size (by show 0 + 6 ≤ 6; omega) (by simp [Value.oneCell']) ?_)
  change bodyPost _ _ _ _ _ (((w3.setCell ⟨g, 2, none⟩ (.int .u32 id)).setCell ⟨g, 4, none⟩ (.int .u32 next)).setRow w.heap.size #[.int .u8 1, .int .u8 0, .int .u32 id, .int .u64 0, .int .u32 next, .slice A' l.length c])
  have hB6 := HB5'.out.setRow #[.int .u8 1, .int .u8 0, .int .u32 id, .int .u64 0, .int .u32 next, .slice A' l.length c]
  have hR6 := Reads.keep (w' := ((w3.setCell ⟨g, 2, none⟩ (.int .u32 id)).setCell ⟨g, 4, none⟩ (.int .u32 next)).setRow w.heap.size #[.int .u8 1, .int .u8 0, .int .u32 id, .int .u64 0, .int .u32 next, .slice A' l.length c]) HR5.out (by simp) (fun b hb => heap_setRow_other _ _ _ _ (Nat.ne_of_gt hb.1))
  have hb6 := below_setRow HBE.out (Nat.le_refl w.heap.size) #[.int .u8 1, .int .u8 0, .int .u32 id, .int .u64 0, .int .u32 next, .slice A' l.length c]
  exact bodyPost_ret (v := .agg #[.int .u8 1, .int .u8 0, .int .u32 id, .int .u64 0, .int .u32 next, .slice A' l.length c]) (results_cell_row rfl _ _ w.heap.size 51 _ (0, 0) _ rfl hB6 Tryz.underlying51 rfl rfl) rfl ⟨A', c, by simp, HA.out, hR6.mono (fun b hb => Nat.le_of_lt hb.1), hb6⟩

set_option maxRecDepth 100000 in
set_option maxHeartbeats 4000000 in
theorem law18_inner (id level : Nat) {w : World} {G : Foot} {l : List Sp.En} {A : Option Addr} {cap : Nat} (hR : EnsAt G w A l) (hok : ∀ r ∈ l, r.may) (hl : l.length ≤ 1000000) :
    Calls Tryz.prog 20 #[u32v id, .int .u8 level, .slice A l.length cap] w (PgPost w ⟨2, level, id, 0, 0, l.map Sp.En.bytes⟩) := by
  have hb1 := (Below.refl w.heap.size w).alloc (Nat.le_refl _) (.cells #[.int .u8 0, .int .u8 0, .int .u32 0, .int .u64 0, .int .u32 0, .slice none 0 0] 51)
  have hB1 := Blk.new w 51 #[.int .u8 0, .int .u8 0, .int .u32 0, .int .u64 0, .int .u32 0, .slice none 0 0]
  have H := Lib.hid (law08_inner (cap := cap) (hR.below hb1) hok hl)
  clear hR hok
  go_enter Tryz.func20, Tryz.ntmps20
  go_wp2_with fail
  refine H.out.mono ?_
  rintro e w2 ⟨A', c, rfl, hA, hRR, hb2⟩
  have hb12 := hb1.trans (hb2.mono hb1.size)
  have hB2 := hB1.below hb2 hB1.lt
  have hR2 : RowsAt (fun b => w.heap.size < b) w2 A' (l.map Sp.En.bytes) := hRR.mono (fun b hb => by
    have hb : (w.alloc (.cells #[.int .u8 0, .int .u8 0, .int .u32 0, .int .u64 0, .int .u32 0, .slice none 0 0] 51)).heap.size ≤ b := hb
    rw [World.size_alloc] at hb
    exact hb)
  have hs := hB2.lt
  have hb3 := (Below.refl w2.heap.size w2).alloc (Nat.le_refl _) (.cells #[.int .u8 2, .int .u8 1, .int .u32 6, .int .u64 0, .int .u32 0, .slice A' l.length c] 51)
  have hB3 := Blk.new w2 51 #[.int .u8 2, .int .u8 1, .int .u32 6, .int .u64 0, .int .u32 0, .slice A' l.length c]
  have hB3' := hB2.below hb3 hB2.lt
  have hR3 := Reads.below (Reads.in_ hR2) hb3
  have hb13 := hb12.trans (hb3.mono hb12.size)
  have HA := Lib.hid hA
  clear hB1 hb1 hb2 hb12 hRR hR2 hB2 hb3 H hA
  go_upto_region 2 with fail
  change Code.wp _ _ _ _ (w2.alloc (.cells #[.int .u8 2, .int .u8 1, .int .u32 6, .int .u64 0, .int .u32 0, .slice A' l.length c] 51))
  obtain ⟨g, hg⟩ : ∃ g, g = w2.heap.size := ⟨_, rfl⟩
  generalize hw3 : World.alloc w2 _ = w3 at hB3 hB3' hR3 hb13 ⊢
  rw [← hg] at hB3 hs hR3 ⊢
  clear hw3 hg
  have c2 := hB3.cell 2
  have f2 := hB3.frozen 2
  have hB4 : Blk (w3.setCell ⟨g, 2, none⟩ (.int .u32 id)) g 51 #[.int .u8 2, .int .u8 1, .int .u32 id, .int .u64 0, .int .u32 0, .slice A' l.length c] := hB3.set_ 2 (.int .u32 id)
  have c4 := hB4.cell 1
  have f4 := hB4.frozen 1
  have hB5 : Blk ((w3.setCell ⟨g, 2, none⟩ (.int .u32 id)).setCell ⟨g, 1, none⟩ (.int .u8 level)) g 51 #[.int .u8 2, .int .u8 level, .int .u32 id, .int .u64 0, .int .u32 0, .slice A' l.length c] := hB4.set_ 1 (.int .u8 level)
  simp only [List.getElem?_toArray, List.getElem?_cons_succ, List.getElem?_cons_zero] at c2 c4
  obtain ⟨q0, q1, q2, q3, q4, q5⟩ := page_cells hB5
  have hne : w.heap.size ≠ g := Nat.ne_of_lt hs
  have hB5' := (hB3'.far (p := ⟨g, 2, none⟩) hne (.int .u32 id)).far (p := ⟨g, 1, none⟩) hne (.int .u8 level)
  have hb5 := (hb13.setCell (p := ⟨g, 2, none⟩) (Nat.le_of_lt hs) (.int .u32 id)).setCell (p := ⟨g, 1, none⟩) (Nat.le_of_lt hs) (.int .u8 level)
  have hR5 : RowsAt (fun b => w.heap.size < b ∧ b < g) ((w3.setCell ⟨g, 2, none⟩ (.int .u32 id)).setCell ⟨g, 1, none⟩ (.int .u8 level)) A' (l.map Sp.En.bytes) := Reads.keep hR3 (by simp) (fun b hb => (Below.heap_setCell _ _ _ b (fun e => by have e : b = g := e; have := hb.2; omega)).trans (Below.heap_setCell _ _ _ b (fun e => by have e : b = g := e; have := hb.2; omega)))
  have HB5' := Lib.hid hB5'
  have HR5 := Lib.hid hR5
  have HBE := Lib.hid hb5
  clear hB3 hB3' hR3 hb13 hB4 hB5 hB5' hR5 hb5
  go_wp2_with (refine wpList_store_part rfl _ _ _ rfl w.heap.size 0 #[.int .u8 2, .int .u8 level, .int .u32 id, .int .u64 0, .int .u32 0, .slice A' l.length c] rfl rfl _ _ HB5'.out page_size (by show 0 + 6 ≤ 6; omega) (by simp [Value.oneCell']) ?_)
  change bodyPost _ _ _ _ _ (((w3.setCell ⟨g, 2, none⟩ (.int .u32 id)).setCell ⟨g, 1, none⟩ (.int .u8 level)).setRow w.heap.size #[.int .u8 2, .int .u8 level, .int .u32 id, .int .u64 0, .int .u32 0, .slice A' l.length c])
  have hB6 := HB5'.out.setRow #[.int .u8 2, .int .u8 level, .int .u32 id, .int .u64 0, .int .u32 0, .slice A' l.length c]
  have hR6 := Reads.keep (w' := ((w3.setCell ⟨g, 2, none⟩ (.int .u32 id)).setCell ⟨g, 1, none⟩ (.int .u8 level)).setRow w.heap.size #[.int .u8 2, .int .u8 level, .int .u32 id, .int .u64 0, .int .u32 0, .slice A' l.length c]) HR5.out (by simp) (fun b hb => heap_setRow_other _ _ _ _ (Nat.ne_of_gt hb.1))
  have hb6 := below_setRow HBE.out (Nat.le_refl w.heap.size) #[.int .u8 2, .int .u8 level, .int .u32 id, .int .u64 0, .int .u32 0, .slice A' l.length c]
  exact bodyPost_ret (v := .agg #[.int .u8 2, .int .u8 level, .int .u32 id, .int .u64 0, .int .u32 0, .slice A' l.length c]) (results_cell_row rfl _ _ w.heap.size 51 _ (0, 0) _ rfl hB6 Tryz.underlying51 rfl rfl) rfl ⟨A', c, by simp, HA.out, hR6.mono (fun b hb => Nat.le_of_lt hb.1), hb6⟩
end Go.Proofs.YtafopojibpifoaaGreat

/- Plain laws on what twin.Write leaves on a disk. -/
namespace Go.Proofs.YtafopojibpifoaaGreat
open Go.RowKit
namespace Sp

def wrs : List TAct → List (Nat × Bs)
  | [] => []
  | .wr k s :: l => (k, s) :: wrs l
  | .sync :: l => wrs l
theorem wrs_app : ∀ (a b : List TAct), wrs (a ++ b) = wrs a ++ wrs b
  | [], _ => rfl
  | .wr k s :: a, b => by simp [wrs, wrs_app a b]
  | .sync :: a, b => by simp [wrs, wrs_app a b]

theorem view_put (d : Dk) (k : Nat) (s : Bs) : (d.put k s).view = lay [(k, s)] d.view := by simp [Dk.put, Dk.view, lay_append]
theorem view_synced (d : Dk) : d.synced.view = d.view := by simp [Dk.synced, Dk.view, lay]
theorem view_acts (d : Dk) : ∀ l, (d.acts l).view = lay (wrs l) d.view := fun l => by
  induction l generalizing d with
  | nil => rfl
  | cons a l ih =>
    show (Dk.acts (d.act a) l).view = _
    rw [ih]
    cases a with
    | wr k s => simp only [Dk.act, view_put, wrs]; rfl
    | sync => simp only [Dk.act, view_synced, wrs]
/-- behind a list that ends with a Sync. -/
theorem acts_synced (d : Dk) (l : List TAct) : (d.acts (l ++ [.sync])).loose = [] ∧ (d.acts (l ++ [.sync])).sure = lay (wrs l) d.view := by
  rw [acts_snoc]
  exact ⟨rfl, view_acts d l⟩

theorem lay_other : ∀ (l : List (Nat × Bs)) (s : List Bs) (k : Nat), (∀ x ∈ l, x.1 ≠ k) → (lay l s)[k]? = s[k]?
  | [], _, _, _ => rfl
  | x :: l, s, k, h => by
    show (lay l (s.set x.1 x.2))[k]? = _
    rw [lay_other l _ k (fun y hy => h y (List.mem_cons_of_mem _ hy)), List.getElem?_set_ne (h x (List.mem_cons_self))]
/-- read where the last that is written there says t. -/
theorem lay_at (a b : List (Nat × Bs)) (s : List Bs) (k : Nat) (t : Bs) (hk : k < s.length) (hb : ∀ x ∈ b, x.1 ≠ k) : (lay (a ++ (k, t) :: b) s)[k]? = some t := by
  rw [lay_append]
  show (lay b ((lay a s).set k t))[k]? = _
  rw [lay_other b _ k hb, List.getElem?_set_self (by simpa using hk)]

theorem wrs_home (base : Nat) (x : Nat × Bs) : wrs (homeActs base x) = (List.range 4).map fun j => (base + x.1 * 4 + j, (x.2.drop (j * 128)).take 128) := rfl
theorem wrs_homes (base : Nat) : ∀ l, wrs (homesActs base l) = (l.map fun x => (List.range 4).map fun j => (base + x.1 * 4 + j, (x.2.drop (j * 128)).take 128)).flatten
  | [] => rfl
  | x :: l => by
    show wrs (homeActs base x ++ homesActs base l) = _
    rw [wrs_app, wrs_home, wrs_homes base l]; rfl
theorem mem_wrs_homes {base : Nat} {l : List (Nat × Bs)} {y : Nat × Bs} (h : y ∈ wrs (homesActs base l)) : ∃ x ∈ l, ∃ j, j < 4 ∧ y.1 = base + x.1 * 4 + j := by
  rw [wrs_homes] at h
  obtain ⟨z, hz, hy⟩ := List.mem_flatten.1 h
  obtain ⟨x, hx, rfl⟩ := List.mem_map.1 hz
  obtain ⟨j, hj, rfl⟩ := List.mem_map.1 hy
  exact ⟨x, hx, j, List.mem_range.1 hj, rfl⟩

theorem range4 {α : Type} (f : Nat → α) : (List.range 4).map f = [f 0, f 1, f 2, f 3] := rfl

/-- One page written: the disk behind it. -/
theorem twin_one (d : Dk) (hlo : d.loose = []) (hf : d.fuse = -1) (at_ base p : Nat) (t : Bs) (ht : t.length = 512) (hin : inside d.sure.length at_ base p) :
    (d.acts (twinActs at_ base [(p, t)])).loose = [] ∧ (d.acts (twinActs at_ base [(p, t)])).fuse = -1 ∧ (d.acts (twinActs at_ base [(p, t)])).sure.length = d.sure.length ∧
    pageAt (d.acts (twinActs at_ base [(p, t)])).sure (base + p * 4) = t ∧
    ∀ q, q ≠ p → at_ + 33 ≤ base + q * 4 → base + q * 4 + 4 ≤ d.sure.length → pageAt (d.acts (twinActs at_ base [(p, t)])).sure (base + q * 4) = pageAt d.sure (base + q * 4) := by
  obtain ⟨hi1, hi2⟩ := hin
  have hview : d.view = d.sure := by simp [Dk.view, hlo, lay]
  have hw : ∃ a c, twinActs at_ base [(p, t)] = (a ++ homesActs base [(p, t)] ++ c) ++ [.sync] ∧ (∀ x ∈ wrs a, x.1 < at_ + 33) ∧ (∀ x ∈ wrs c, x.1 < at_ + 33) := by
    refine ⟨(homesActs (at_ + 1) (areaOf [(p, t)]) ++ [.sync]) ++ [.wr at_ (markBs [(p, t)]), .sync], [.sync, .wr at_ (zeros 128)], by simp [twinActs], fun x hx => ?_, fun x hx => ?_⟩
    · rw [wrs_app, wrs_app] at hx
      simp only [wrs, List.append_nil, List.mem_append, List.mem_singleton] at hx
      rcases hx with hx | rfl
      · obtain ⟨y, hy, j, hj, e⟩ := mem_wrs_homes hx
        have : y.1 = 0 := by
          simp [areaOf] at hy
          rw [hy]
        omega
      · show at_ < at_ + 33; omega
    · simp [wrs] at hx
      rw [hx]; show at_ < at_ + 33; omega
  obtain ⟨a, c, hw, ha, hc⟩ := hw
  have hs := acts_synced d (a ++ homesActs base [(p, t)] ++ c)
  rw [← hw, hview, wrs_app, wrs_app] at hs
  have hlen := acts_sure d (twinActs at_ base [(p, t)])
  have hh : wrs (homesActs base [(p, t)]) = [(base + p * 4 + 0, (t.drop 0).take 128), (base + p * 4 + 1, (t.drop 128).take 128), (base + p * 4 + 2, (t.drop 256).take 128), (base + p * 4 + 3, (t.drop 384).take 128)] := by
    rw [wrs_homes]; rfl
  refine ⟨hs.1, acts_fuse d hf _, hlen, ?_, fun q hq h1 h2 => ?_⟩
  · rw [hs.2, hh]
    generalize hL : lay (wrs a ++ [(base + p * 4 + 0, (t.drop 0).take 128), (base + p * 4 + 1, (t.drop 128).take 128), (base + p * 4 + 2, (t.drop 256).take 128), (base + p * 4 + 3, (t.drop 384).take 128)] ++ wrs c) d.sure = L
    have g0 : L[base + p * 4 + 0]? = some ((t.drop 0).take 128) := by
      rw [← hL]
      have := lay_at (wrs a) ([(base + p * 4 + 1, (t.drop 128).take 128), (base + p * 4 + 2, (t.drop 256).take 128), (base + p * 4 + 3, (t.drop 384).take 128)] ++ wrs c) d.sure (base + p * 4 + 0) ((t.drop 0).take 128) (by omega) (fun x hx => by
        rcases List.mem_append.1 hx with hx | hx
        · simp at hx; rcases hx with rfl | rfl | rfl <;> simp
        · have := hc x hx; omega)
      simpa using this
    have g1 : L[base + p * 4 + 1]? = some ((t.drop 128).take 128) := by
      rw [← hL]
      have := lay_at (wrs a ++ [(base + p * 4 + 0, (t.drop 0).take 128)]) ([(base + p * 4 + 2, (t.drop 256).take 128), (base + p * 4 + 3, (t.drop 384).take 128)] ++ wrs c) d.sure (base + p * 4 + 1) ((t.drop 128).take 128) (by omega) (fun x hx => by
        rcases List.mem_append.1 hx with hx | hx
        · simp at hx; rcases hx with rfl | rfl <;> simp
        · have := hc x hx; omega)
      simpa using this
    have g2 : L[base + p * 4 + 2]? = some ((t.drop 256).take 128) := by
      rw [← hL]
      have := lay_at (wrs a ++ [(base + p * 4 + 0, (t.drop 0).take 128), (base + p * 4 + 1, (t.drop 128).take 128)]) ([(base + p * 4 + 3, (t.drop 384).take 128)] ++ wrs c) d.sure (base + p * 4 + 2) ((t.drop 256).take 128) (by omega) (fun x hx => by
        rcases List.mem_append.1 hx with hx | hx
        · simp at hx; rw [hx]; simp
        · have := hc x hx; omega)
      simpa using this
    have g3 : L[base + p * 4 + 3]? = some ((t.drop 384).take 128) := by
      rw [← hL]
      have := lay_at (wrs a ++ [(base + p * 4 + 0, (t.drop 0).take 128), (base + p * 4 + 1, (t.drop 128).take 128), (base + p * 4 + 2, (t.drop 256).take 128)]) (wrs c) d.sure (base + p * 4 + 3) ((t.drop 384).take 128) (by omega) (fun x hx => by have := hc x hx; omega)
      simpa using this
    have hd : (L.drop (base + p * 4)).take 4 = [(t.drop 0).take 128, (t.drop 128).take 128, (t.drop 256).take 128, (t.drop 384).take 128] := by
      apply List.ext_getElem?
      intro k
      rw [List.getElem?_take]
      match k with
      | 0 => simpa using g0
      | 1 => simpa using g1
      | 2 => simpa using g2
      | 3 => simpa using g3
      | k + 4 =>
        rw [if_neg (by omega)]
        simp
    unfold pageAt
    rw [hd]
    simp only [List.flatten_cons, List.flatten_nil, List.append_nil, List.drop_zero]
    have e3 : (t.drop 384).take 128 = t.drop 384 := List.take_of_length_le (by simp; omega)
    have e2 : (t.drop 256).take 128 ++ t.drop 384 = t.drop 256 := by
      have := List.take_append_drop 128 (t.drop 256); rwa [List.drop_drop] at this
    have e1 : (t.drop 128).take 128 ++ t.drop 256 = t.drop 128 := by
      have := List.take_append_drop 128 (t.drop 128); rwa [List.drop_drop] at this
    rw [e3, e2, e1, List.take_append_drop]
  · rw [hs.2]
    unfold pageAt
    congr 1
    apply List.ext_getElem?
    intro k
    rw [List.getElem?_take, List.getElem?_take]
    split
    · rename_i hk
      rw [List.getElem?_drop, List.getElem?_drop]
      refine lay_other _ _ _ (fun x hx => ?_)
      rw [hh] at hx
      rcases List.mem_append.1 hx with hx | hx
      · rcases List.mem_append.1 hx with hx | hx
        · have := ha x hx; omega
        · simp at hx
          rcases hx with rfl | rfl | rfl | rfl <;> simp <;> omega
      · have := hc x hx; omega
    · rfl
end Sp
end Go.Proofs.YtafopojibpifoaaGreat

/- The walks of the law package pentimentolaw17: begin, MadeOf, Made: an act on a disk that has given pages. -/
namespace Go.Proofs.YtafopojibpifoaaGreat
open Go.RowKit Go.Conc

namespace Sp
/-- The last of the pages that has a number; or a free one. -/
def pick (l : List Pg) (n : Nat) : Pg := l.foldl (fun x p => if p.id = n then p else x) (zeroPg n)
theorem pick_snoc (l : List Pg) (p : Pg) (n : Nat) : pick (l ++ [p]) n = if p.id = n then p else pick l n := by simp [pick]
theorem pick_take {l : List Pg} {i : Nat} (h : i < l.length) (n : Nat) : pick (l.take (i + 1)) n = if l[i].id = n then l[i] else pick (l.take i) n := by rw [List.take_succ_eq_append_getElem h, pick_snoc]
theorem pick_id (l : List Pg) (n : Nat) : (pick l n).id = n := by
  have : ∀ (l : List Pg) (x : Pg), x.id = n → (l.foldl (fun x p => if p.id = n then p else x) x).id = n := by
    intro l
    induction l with
    | nil => exact fun _ h => h
    | cons p l ih =>
      intro x hx
      simp only [List.foldl_cons]
      split
      · rename_i h; exact ih _ h
      · exact ih _ hx
  exact this l _ rfl
end Sp

/-- How the desk's disk is laid out: 64 sectors of the log, the area, homes of 12 pages. -/
def ly17 : Ly := ⟨64, 97, 12, 149, by omega, by omega⟩

/-- Pages in memory, one behind the other. -/
def PgsL (G : Foot) (w : World) (b o : Nat) (l : List Sp.Pg) : Prop :=
  ∀ q (h : q < l.length), ∃ A c, RowsAt G w A l[q].rows ∧ w.cell? ⟨b, o + q * 6, none⟩ = some (.int .u8 l[q].kind) ∧ w.cell? ⟨b, o + q * 6 + 1, none⟩ = some (.int .u8 l[q].level) ∧ w.cell? ⟨b, o + q * 6 + 2, none⟩ = some (.int .u32 l[q].id) ∧
    w.cell? ⟨b, o + q * 6 + 3, none⟩ = some (.int .u64 l[q].lsn) ∧ w.cell? ⟨b, o + q * 6 + 4, none⟩ = some (.int .u32 l[q].next) ∧ w.cell? ⟨b, o + q * 6 + 5, none⟩ = some (.slice A l[q].rows.length c)
theorem PgsL.below {G : Foot} {w w' : World} {b o n : Nat} {l : List Sp.Pg} (h : PgsL G w b o l) (hb : Below n w w') (hl : b < n) (hG : ∀ x, G x → x < n) : PgsL G w' b o l := fun q hq => by
  obtain ⟨A, c, hR, c0, c1, c2, c3, c4, c5⟩ := h q hq
  exact ⟨A, c, hR.keep hb.size (fun x hx => hb.block x (hG x hx)), (hb.cell (p := ⟨b, _, none⟩) hl).trans c0, (hb.cell (p := ⟨b, _, none⟩) hl).trans c1, (hb.cell (p := ⟨b, _, none⟩) hl).trans c2, (hb.cell (p := ⟨b, _, none⟩) hl).trans c3, (hb.cell (p := ⟨b, _, none⟩) hl).trans c4, (hb.cell (p := ⟨b, _, none⟩) hl).trans c5⟩

/-- The desk that has begun. -/
abbrev deskCs (gd gl gp ga : Nat) : Array Value := #[ptr gd, ptr gl, ptr gp, ptr ga, .int .i64 64]
def DeskPost (w : World) (gk gd gl n : Nat) (e : Ending) (w' : World) : Prop :=
  ∃ (gp ga : Nat) (F : Foot), e = .returned (.bool true) ∧ Blk w' gk 79 (deskCs gd gl gp ga) ∧ Blk w' ga 108 #[ptr gp, ptr gl] ∧ IsPl F w' gp gd gl 64 97 ⟨n, [], List.range n⟩ ∧
    (∀ b, F b → w.heap.size ≤ b ∧ b ≠ ga) ∧ w.heap.size ≤ ga ∧ Turns (only gk) (only gk) w w'

set_option maxRecDepth 100000 in
set_option maxHeartbeats 4000000 in
theorem desk_begin {w : World} {gk gd gl : Nat} (n : Nat) (h1 : 1 ≤ n) (h64 : n ≤ 64) (hK : Blk w gk 79 #[ptr gd, ptr gl, .pointer none, .pointer none, .int .i64 64]) :
    Calls Tryz.prog 60 #[ptr gk, .int .i64 n] w (DeskPost w gk gd gl n) := by
  have HPN := Lib.hid (pool_new gd gl 64 97 n h1 h64 w.drew)
  have HAN := Lib.hid fun (gp : Nat) (W : World) => act_new gp gl W
  have c0 := hK.cell 0
  have c1 := hK.cell 1
  have c4 := hK.cell 4
  simp only [List.getElem?_toArray, List.getElem?_cons_succ, List.getElem?_cons_zero] at c0 c1 c4
  have hkl := hK.lt
  have hS := Lib.hid (show w.drew.cell? ⟨gk, 0, none⟩ = some (ptr gd) ∧ w.drew.cell? ⟨gk, 1, none⟩ = some (ptr gl) ∧ w.drew.cell? ⟨gk, 4, none⟩ = some (.int .i64 64) from ⟨c0, c1, c4⟩)
  have HK := Lib.hid hK
  clear hK c0 c1 c4
  go_enter Tryz.func60, Tryz.ntmps60
  go_wp2_with fail
  refine R_begin (fun W => W.cell? ⟨gk, 0, none⟩ = some (ptr gd) ∧ W.cell? ⟨gk, 1, none⟩ = some (ptr gl) ∧ W.cell? ⟨gk, 4, none⟩ = some (.int .i64 64)) (fun _ => false) rfl ?_
  refine R_tk 0 10 hS.out ?_
  refine R_tk 1 11 hS.out ?_
  refine R_tk 2 12 hS.out ?_
  refine R_tk 3 13 hS.out ?_
  refine R_tk 4 14 hS.out ?_
  refine R_tk 5 15 hS.out ?_
  refine R_tk 6 16 hS.out ?_
  refine R_tk 7 17 hS.out ?_
  refine R_tk 8 18 hS.out ?_
  refine R_tk 9 19 hS.out ?_
  refine R_tk 10 20 hS.out ?_
  refine R_tk 11 21 hS.out ?_
  refine R_tk 12 22 hS.out ?_
  refine R_tk 13 23 hS.out ?_
  refine R_tk 14 24 hS.out ?_
  refine R_tk 15 25 hS.out ?_
  refine R_tk 16 26 hS.out ?_
  refine R_tk 17 27 hS.out ?_
  simp only [List.setIfInBounds_toArray, List.set_cons_zero, List.set_cons_succ]
  refine R_call 18 28 (w' := w.drew) rfl rfl (by rfl) (by kernel_rfl) ?_ HPN.out ?_
  · go_simp; rfl
  rintro e w2 ⟨gp, F, rfl, hpl, hb2, hF⟩
  have hK2 := HK.out.drew.below hb2 hkl
  have d0 := hK2.cell 0
  have d1 := hK2.cell 1
  have d4 := hK2.cell 4
  simp only [List.getElem?_toArray, List.getElem?_cons_succ, List.getElem?_cons_zero] at d0 d1 d4
  have hS2 := Lib.hid (show w2.cell? ⟨gk, 0, none⟩ = some (ptr gd) ∧ w2.cell? ⟨gk, 1, none⟩ = some (ptr gl) ∧ w2.cell? ⟨gk, 4, none⟩ = some (.int .i64 64) from ⟨d0, d1, d4⟩)
  refine ⟨_, rfl, fun _ => hS2.out, ?_⟩
  simp only [List.setIfInBounds_toArray, List.set_cons_zero, List.set_cons_succ]
  refine R_tk 19 9 hS2.out ?_
  refine R_tk 20 29 hS2.out ?_
  refine R_tk 21 30 hS2.out ?_
  refine R_tk 22 5 hS2.out ?_
  refine R_tk 23 6 hS2.out ?_
  simp only [List.setIfInBounds_toArray, List.set_cons_zero, List.set_cons_succ]
  refine R_done (by kernel_rfl) ?_ _
  rename_i K9 hK9
  refine hK9 _ _ ?_
  clear hK9 d0 d4 hS2 hS HPN
  go_wp2_with fail
  have hw2 : w.heap.size ≤ w2.heap.size := hb2.size
  have hpll := hpl.lt
  have hPL := Lib.hid hpl
  have HF := Lib.hid hF
  refine (HAN.out gp w2).mono ?_
  rintro e w3 ⟨rfl, hw3⟩
  have hK3 := hK2.alloc (.cells #[ptr gp, ptr gl] 108)
  have hA3 := Blk.new w2 108 #[ptr gp, ptr gl]
  have hb3 := (Below.refl w2.heap.size w2).alloc (Nat.le_refl _) (.cells #[ptr gp, ptr gl] 108)
  rw [← hw3] at hK3 hA3 hb3
  obtain ⟨ga, hga⟩ : ∃ g, g = w2.heap.size := ⟨_, rfl⟩
  rw [← hga] at hA3 hw2 hpll ⊢
  have c2 := hK3.cell 2
  have f2 := hK3.frozen 2
  have hK4 := hK3.set_ 2 (ptr gp)
  have c3 := hK4.cell 3
  have f3 := hK4.frozen 3
  have hK5 := hK4.set_ 3 (ptr ga)
  simp only [List.getElem?_toArray, List.getElem?_cons_succ, List.getElem?_cons_zero, List.setIfInBounds_toArray, List.set_cons_zero, List.set_cons_succ] at c2 c3 hK5
  have hpl3 := hPL.out.below hb3
  have hgk : gk < w2.heap.size := hK2.lt
  have hb02 : Below w.heap.size w w2 := ⟨hb2.os, hb2.tape, hb2.output, hb2.size, hb2.block⟩
  have hnk : gk ≠ ga := by rw [hga]; exact Nat.ne_of_lt hgk
  have hT : Turns (only gk) (only gk) w ((w3.setCell ⟨gk, 2, none⟩ (ptr gp)).setCell ⟨gk, 3, none⟩ (ptr ga)) :=
    (((Turns.of_below (hb02.trans (hb3.mono hb02.size)) (only gk)).setCell (p := ⟨gk, 2, none⟩) (.inl rfl) _).setCell (p := ⟨gk, 3, none⟩) (.inl rfl) _)
  have hpl5 : IsPl F ((w3.setCell ⟨gk, 2, none⟩ (ptr gp)).setCell ⟨gk, 3, none⟩ (ptr ga)) gp gd gl 64 97 ⟨n, [], List.range n⟩ := hpl3.keep (by simp) (fun b hb => (Below.heap_setCell _ _ _ b (fun e => by have e : b = gk := e; have h9 : w.heap.size ≤ b := HF.out b hb; omega)).trans (Below.heap_setCell _ _ _ b (fun e => by have e : b = gk := e; have h9 : w.heap.size ≤ b := HF.out b hb; omega)))
  have hA5 := (hA3.far (p := ⟨gk, 2, none⟩) (Ne.symm hnk) (ptr gp)).far (p := ⟨gk, 3, none⟩) (Ne.symm hnk) (ptr ga)
  have HFIN : Hid (DeskPost w gk gd gl n (.returned (.bool true)) ((w3.setCell ⟨gk, 2, none⟩ (ptr gp)).setCell ⟨gk, 3, none⟩ (ptr ga))) := Lib.hid ⟨gp, ga, F, rfl, hK5, hA5, hpl5, fun b hb => ⟨HF.out b hb, fun e => by have := hpll b hb; omega⟩, hw2, hT⟩
  clear hK3 hA3 hb3 hw3 hK4 hK5 hpl3 hT hpl5 hA5 hK2 hb2 hb02 hpl hF d1 hga
  go_wp2_with fail
  go_ret
  exact HFIN.out

/-- A disk on which the pages below k are the given ones. -/
structure DkUp (pg : Nat → Sp.Pg) (k : Nat) (dk : Sp.Dk) : Prop where
  len : dk.sure.length = 149
  loose : dk.loose = []
  fuse : dk.fuse = -1
  page : ∀ q, 1 ≤ q → q < k → Sp.pageAt dk.sure (97 + q * 4) = pgBytes (pg q)
/-- What holds while they are laid. -/
def LayT (w : World) (pg : Nat → Sp.Pg) (gd k : Nat) (wr : World) : Prop :=
  ∃ (D : Foot) (dk : Sp.Dk), IsDk D wr gd dk ∧ DkUp pg k dk ∧ (∀ b, D b → w.heap.size ≤ b) ∧ Below w.heap.size w wr
/-- The page of a number, as far as it was looked for. -/
def PickAt (l : List Sp.Pg) (G : Foot) (k g m : Nat) (w5 wx : World) : Prop :=
  ∃ A c, RowsAt G wx A (Sp.pick (l.take m) k).rows ∧ Blk wx g 51 (pgCs (Sp.pick (l.take m) k) A c) ∧ Turns (only g) (only g) w5 wx
/-- What MadeOf leaves. -/
def MadePost (w : World) (pg : Nat → Sp.Pg) (n : Nat) (e : Ending) (w' : World) : Prop :=
  ∃ gk gd gl gp ga, e = .returned (ptr gk) ∧ Blk w' gk 79 (deskCs gd gl gp ga) ∧ Blk w' gl 179 (lgCells gd 0 64 1 (.slice none 0 0) (.slice none 0 0) 110 110 110 0) ∧
    AcAt ly17 pg (fun b => b < w.heap.size ∨ b = gk ∨ b = ga ∨ b = gl) w' ga gd gl gp n ∧ Below w.heap.size w w'

set_option maxRecDepth 100000 in
set_option maxHeartbeats 8000000 in
theorem law17_madeOf (n : Nat) (h1 : 1 ≤ n) (h64 : n ≤ 64) {w : World} {G : Foot} {l : List Sp.Pg} {b o cap : Nat} (hl : PgsL G w b o l) (hbl : b < w.heap.size) (hG : ∀ x, G x → x < w.heap.size) (hok : ∀ q, 1 ≤ q → q ≤ 12 → (Sp.pick l q).wf ∧ (Sp.pick l q).may) (hll : l.length ≤ 1000) :
    Calls Tryz.prog 40 #[.int .i64 64, .int .i64 12, .int .i64 n, .slice (some ⟨b, o, none⟩) l.length cap] w (MadePost w (Sp.pick l) n) := by
  have HDN := Lib.hid fun (W : World) => disk_new 149 W (by omega) (by omega)
  have HL := Lib.hid hl
  have HG := Lib.hid hG
  have HOK := Lib.hid hok
  clear hl hG hok
  go_enter Tryz.func40, Tryz.ntmps40
  go_wp2_with fail
  refine (HDN.out w).mono ?_
  rintro e w1 ⟨gd, D, rfl, hd, ht⟩
  have hD : ∀ b, D b → w.heap.size ≤ b := fun b hb => (ht.foot b hb).resolve_left (fun h => h)
  have HLA := Lib.hid (show LayT w (Sp.pick l) gd 1 w1 from ⟨D, _, hd, ⟨by simp [Sp.newDk], rfl, rfl, fun q h1 h2 => by omega⟩, hD, ht.below_none⟩)
  clear hd hD ht HDN
  go_wp2_with fail
  go_loopw [11] (fun i wr => ∃ k : Nat, 1 ≤ k ∧ k ≤ 13 ∧ i = .int .u32 k ∧ LayT w (Sp.pick l) gd k wr) (fun i _ => 13 - (intOf i).toNat)
  case atStart => exact ⟨1, by omega, by omega, rfl, HLA.out⟩
  case round =>
    obtain ⟨k, hk1, hk13, rfl, hL⟩ := hrel
    clear HLA
    have HLk := Lib.hid hL
    clear hL
    by_cases hlt : k < 13
    · have HZ := Lib.hid fun (W : World) => law17_zero k W
      have d7 : decide ((k : Int) ≤ 12) = true := by rw [decide_eq_true_eq]; omega
      have wr64 : IntKind.i64.wrap ((k : Nat) : Int) = k := by rw [IntKind.wrap_i64]; omega
      go_wp2_with fail
      refine (HZ.out wr).mono ?_
      rintro e w4 ⟨rfl, hb4⟩
      have hb5 := hb4.alloc hb4.size (.cells (pgCs (Sp.zeroPg k) none 0) 51)
      have hB5 := Blk.new w4 51 (pgCs (Sp.zeroPg k) none 0)
      have hs4 := hb4.size
      clear HZ hb4
      go_wp2_with fail
      change Code.wp _ _ _ _ (w4.alloc (.cells (pgCs (Sp.zeroPg k) none 0) 51))
      obtain ⟨g, hg⟩ : ∃ g, g = w4.heap.size := ⟨_, rfl⟩
      obtain ⟨w5, hw5⟩ : ∃ w5, w5 = w4.alloc (.cells (pgCs (Sp.zeroPg k) none 0) 51) := ⟨_, rfl⟩
      rw [← hw5] at hb5 hB5 ⊢
      rw [← hg] at hB5 hs4 ⊢
      clear hw5 hg
      have HP0 := Lib.hid (show PickAt l G k g 0 w5 w5 from ⟨none, 0, ⟨rfl, fun h => absurd h (by simp [Sp.pick, Sp.zeroPg])⟩, hB5, Turns.refl _ _⟩)
      clear hB5
      go_loopw [13] (fun i wx => ∃ m : Nat, m ≤ l.length ∧ i = .int .i64 m ∧ PickAt l G k g m w5 wx) (fun i _ => l.length - (intOf i).toNat)
      case atStart => exact ⟨0, by omega, rfl, HP0.out⟩
      case round =>
        clear HP0
        obtain ⟨m, hm, rfl, A, c, hR, hB, hT⟩ := hrel
        have hww : Below w.heap.size w w5 := by
          obtain ⟨_, _, _, _, _, h⟩ := HLk.out
          exact h.trans (hb5.mono h.size)
        have hgw : w.heap.size ≤ g := by
          obtain ⟨_, _, _, _, _, h⟩ := HLk.out
          have := h.size; omega
        have hbx : Below w.heap.size w wr := hww.trans (hT.below hww.size (fun b hb => by have e : b = g := hb; omega))
        by_cases hmt : m < l.length
        · obtain ⟨A2, c2, hR2, x0, x1, x2, x3, x4, x5⟩ := HL.out.below hbx hbl HG.out m hmt
          have hpk := Sp.pick_take hmt k
          obtain ⟨p, hp⟩ : ∃ p, p = l[m] := ⟨_, rfl⟩
          rw [← hp] at hR2 x0 x1 x2 x3 x4 x5 hpk
          clear hp
          by_cases e : p.id = k
          · rw [if_pos e] at hpk
            have HPK := Lib.hid hpk
            have HB := Lib.hid hB
            have HR2 := Lib.hid hR2
            have HB2 := Lib.hid (hB.setRow (pgCs p A2 c2))
            have HT2 := Lib.hid (hT.setRow (.inl rfl) (pgCs p A2 c2))
            have hgx : ∀ x, G x → x ≠ g := fun x hx => by have := HG.out x hx; omega
            clear hpk hR hB hT hR2
            have e1 : decide ((p.id : Int) = (k : Int)) = true := by rw [decide_eq_true_eq]; omega
            have e2 : ((p.id : Int) == (k : Int)) = true := by rw [beq_iff_eq]; omega
            clear e
            go_wp2_with (refine wpList_store_part rfl _ _ _ rfl g 0 (pgCs p A2 c2) rfl rfl _ _ HB.out page_size (by show 0 + 6 ≤ 6; omega) (by simp [Value.oneCell']) ?_)
            go_roundw
            case rel => exact ⟨m + 1, hmt, by go_num, A2, c2, by rw [HPK.out]; exact HR2.out.keep (by simp) (fun x hx => heap_setRow_other _ _ _ _ (hgx x hx)), by rw [HPK.out]; exact HB2.out, HT2.out⟩
            case measure => simp [intOf]; omega
          · rw [if_neg e] at hpk
            have HPK := Lib.hid hpk
            have HB := Lib.hid hB
            have HR := Lib.hid hR
            have HT := Lib.hid hT
            clear hpk hR2 hB hR hT
            have e1 : decide ((p.id : Int) = (k : Int)) = false := by rw [decide_eq_false_iff_not]; omega
            have e2 : ((p.id : Int) == (k : Int)) = false := by rw [beq_eq_false_iff_ne]; omega
            clear e
            go_wp2_with fail
            go_roundw
            case rel => exact ⟨m + 1, hmt, by go_num, A, c, by rw [HPK.out]; exact HR.out, by rw [HPK.out]; exact HB.out, HT.out⟩
            case measure => simp [intOf]; omega
        · obtain rfl : m = l.length := by omega
          rw [List.take_length] at hR hB
          obtain ⟨q0, q1, q2, q3, q4, q5⟩ := page_cells hB
          have hokk := HOK.out k hk1 (by omega)
          have HE := Lib.hid (page_encode (c := c) hR hokk.1 hokk.2)
          have HHT := Lib.hid hT
          have HOKK := Lib.hid hokk
          have HBX := Lib.hid hbx
          clear hR hB hT hokk hww hbx
          obtain ⟨wx, hwx⟩ : ∃ wx : World, wx = wr := ⟨_, rfl⟩
          subst hwx
          go_wp2_with fail
          refine HE.out.mono ?_
          rintro e w6 ⟨rfl, hb6⟩
          obtain ⟨D, dk, hd, hlk, hD, hbr⟩ := HLk.out
          have hTd := hb5.trans ((HHT.out.below hb5.size (fun b hb => by have e : b = g := hb; omega)))
          have hd6 := (hd.below hTd).below (hb6.mono HHT.out.size |> fun h => (⟨hb6.os, hb6.tape, hb6.output, hb6.size, hb6.block⟩ : Below _ _ _))
          have hlen := pgBytes_length HOKK.out.2
          have hb7 := (Below.refl w6.heap.size w6).alloc (Nat.le_refl _) (.cells #[.int .u32 k, str (pgBytes (Sp.pick l k))] 132)
          have hd7 := hd6.below hb7
          have hHm := Blk.new w6 132 #[.int .u32 k, str (pgBytes (Sp.pick l k))]
          have hRd : Reads (fun b => b = w6.heap.size) (w6.alloc (.cells #[.int .u32 k, str (pgBytes (Sp.pick l k))] 132)) 2 (some ⟨w6.heap.size, 0, none⟩) 1 (hcs [(k, pgBytes (Sp.pick l k))]) :=
            ⟨rfl, fun _ => ⟨w6.heap.size, 0, rfl, rfl, hHm.lt, fun j u hu => by
              rw [Nat.zero_add]
              exact (hHm.cell j).trans (by rw [List.getElem?_toArray]; exact hu)⟩⟩
          have hins : Sp.inside dk.sure.length 64 97 k := by rw [hlk.len]; unfold Sp.inside; omega
          have HTW := Lib.hid (twin_write hd7 hlk.fuse (by rw [hlk.loose]; simp) 64 97 (l := [(k, pgBytes (Sp.pick l k))]) (c := 1) hRd (by simp) (by simp) (fun x hx => by
            rw [List.mem_singleton.1 hx]
            exact ⟨by show k < _; omega, hlen, hins⟩) (by simp) (by rw [hlk.len]; omega) (by rw [hlk.len]; omega))
          have hone := Sp.twin_one dk hlk.loose hlk.fuse 64 97 k _ hlen hins
          have HONE := Lib.hid hone
          have HLK := Lib.hid hlk
          have HD7 := Lib.hid hD
          have hbw7 := HBX.out.trans ((hb6.mono HBX.out.size).trans (hb7.mono (Nat.le_trans HBX.out.size hb6.size)))
          have HBW7 := Lib.hid hbw7
          clear hRd hHm hd hlk hD hbr hTd hd6 hlen hb7 hd7 hins hone hbw7 hb6 HE q0 q1 q2 q3 q4 q5
          go_wp2_with fail
          refine HTW.out.mono ?_
          rintro e w7 ⟨D7, rfl, hd7, ht7⟩
          have hLA : LayT w (Sp.pick l) gd (k + 1) w7 := by
            refine ⟨D7, _, hd7, ⟨HONE.out.2.2.1.trans HLK.out.len, HONE.out.1, HONE.out.2.1, fun q hq1 hq2 => ?_⟩, fun b hb => ?_, HBW7.out.trans (ht7.below HBW7.out.size (fun b hb => HD7.out b hb))⟩
            · by_cases e : q = k
              · rw [e]; exact HONE.out.2.2.2.1
              · rw [HONE.out.2.2.2.2 q e (by omega) (by rw [HLK.out.len]; omega)]
                exact HLK.out.page q hq1 (by omega)
            · rcases ht7.foot b hb with h | h
              · exact HD7.out b h
              · have := HBW7.out.size; omega
          have HLA := Lib.hid hLA
          clear hLA hd7 ht7 HTW HONE HLK HD7 HBW7
          go_wp2_with fail
          go_roundw
          case rel => exact ⟨k + 1, by omega, by omega, by go_num, HLA.out⟩
          case measure => simp [intOf]; omega
    · obtain rfl : k = 13 := by omega
      obtain ⟨D, dk, hd, hlk, hD, hbr⟩ := HLk.out
      have HLN := Lib.hid (log_new hd 0 64 1 (by omega) (by omega) (by rw [hlk.len]; omega) (by omega))
      have HDB := Lib.hid fun (W : World) (gk gl : Nat) (hK : Blk W gk 79 #[ptr gd, ptr gl, .pointer none, .pointer none, .int .i64 64]) => desk_begin n h1 h64 hK
      have HD := Lib.hid hd
      have HLK := Lib.hid hlk
      have HDF := Lib.hid hD
      clear HLk hd hlk hD
      rw [show (((13 : Nat)) : Int) = 13 from rfl]
      go_wp2_with fail
      refine HLN.out.mono ?_
      rintro e w4 ⟨rfl, hw4⟩
      have hLb := Blk.new wr 179 (lgCells gd 0 64 1 (.slice none 0 0) (.slice none 0 0) 110 110 110 0)
      have hb4 := (Below.refl wr.heap.size wr).alloc (Nat.le_refl _) (.cells (lgCells gd 0 64 1 (.slice none 0 0) (.slice none 0 0) 110 110 110 0) 179)
      rw [← hw4] at hLb hb4
      obtain ⟨gl, hgl⟩ : ∃ gl, gl = wr.heap.size := ⟨_, rfl⟩
      rw [← hgl] at hLb ⊢
      have hgle : wr.heap.size ≤ gl := by omega
      have hb5 := hb4.alloc hb4.size (.cells #[ptr gd, ptr gl, .pointer none, .pointer none, .int .i64 64] 79)
      have hK5 := Blk.new w4 79 #[ptr gd, ptr gl, .pointer none, .pointer none, .int .i64 64]
      have hL5 := hLb.alloc (.cells #[ptr gd, ptr gl, .pointer none, .pointer none, .int .i64 64] 79)
      have HDB5 := Lib.hid (HDB.out _ _ _ hK5)
      have hg4 : wr.heap.size ≤ w4.heap.size := hb4.size
      have hgl4 : gl < w4.heap.size := hLb.lt
      clear HDB hw4 HLN hLb hb4 hgl
      go_wp2_with fail
      change Calls Tryz.prog _ _ (w4.alloc (.cells #[ptr gd, ptr gl, .pointer none, .pointer none, .int .i64 64] 79)) _
      obtain ⟨gk, hgk⟩ : ∃ gk, gk = w4.heap.size := ⟨_, rfl⟩
      obtain ⟨w5, hw5⟩ : ∃ w5, w5 = w4.alloc (.cells #[ptr gd, ptr gl, .pointer none, .pointer none, .int .i64 64] 79) := ⟨_, rfl⟩
      rw [← hw5] at hb5 hK5 hL5 HDB5 ⊢
      rw [← hgk] at hK5 HDB5 hg4 hgl4 ⊢
      have hgk5 : gk < w5.heap.size := hK5.lt
      clear hw5 hgk
      refine HDB5.out.mono ?_
      rintro e w6 ⟨gp, ga, F, rfl, hK6, hA6, hpl, hF, hga, hT6⟩
      have hd6 := (HD.out.below hb5).keep (w' := w6) (fun b hb => hT6.block b (by have := HD.out.in_ b hb; have := hb5.size; omega) (fun e => by have e : b = gk := e; have := HD.out.in_ b hb; omega))
      have hL6 := hL5.turns hT6 (fun e => by have e : gl = gk := e; omega)
      have hbw6 := hbr.trans ((hb5.mono hbr.size).trans (hT6.below (Nat.le_trans hbr.size hb5.size) (fun b hb => by have e : b = gk := hb; have := hbr.size; omega)))
      have hin := HD.out.in_
      have hsr := hbr.size
      have hs5 := hb5.size
      have hga6 := hA6.lt
      have hgk6 := hK6.lt
      have hgl6 := hL6.lt
      have hFIN : MadePost w (Sp.pick l) n (.returned (ptr gk)) w6 := by
        refine ⟨gk, gd, gl, gp, ga, rfl, hK6, hL6, ⟨⟨h1, [], ⟨fun q h1 h2 => ⟨(HOK.out q h1 h2).1, (HOK.out q h1 h2).2, Sp.pick_id l q⟩, _, D, F, dk, hd6, ⟨HLK.out.len, HLK.out.loose, HLK.out.fuse, fun q h1 h2 => HLK.out.page q h1 (by have h2 : q ≤ 12 := h2; omega)⟩, hpl, rfl, fun it h => by simp at h, rfl, fun b hb hf => ?_, fun b hb hk => ?_, fun b hk => ?_⟩, fun x hx => by simp at hx⟩, hA6, .inr (.inr (.inl rfl))⟩, hbw6⟩
        · have := hin b hb; have := (hF b hf).1; omega
        · rcases hb with hb | hb
          · have h3 := hin b hb
            have h4 := HDF.out b hb
            rcases hk with hk | hk | hk | hk <;> omega
          · have h3 := hF b hb
            rcases hk with hk | hk | hk | hk <;> omega
        · rcases hk with hk | hk | hk | hk <;> omega
      have HFIN := Lib.hid hFIN
      clear hFIN hd6 hL6 hbw6 hK6 hA6 hpl hF hT6
      go_wp2_with fail
      go_ret
      exact HFIN.out

set_option maxRecDepth 100000 in
theorem law17_made (n : Nat) (h1 : 1 ≤ n) (h64 : n ≤ 64) {w : World} {G : Foot} {l : List Sp.Pg} {b o cap : Nat} (hl : PgsL G w b o l) (hbl : b < w.heap.size) (hG : ∀ x, G x → x < w.heap.size) (hok : ∀ q, 1 ≤ q → q ≤ 12 → (Sp.pick l q).wf ∧ (Sp.pick l q).may) (hll : l.length ≤ 1000) :
    Calls Tryz.prog 24 #[.int .i64 n, .slice (some ⟨b, o, none⟩) l.length cap] w (MadePost w (Sp.pick l) n) := by
  have H := Lib.hid (law17_madeOf (cap := cap) n h1 h64 hl hbl hG hok hll)
  clear hl hG hok
  go_enter Tryz.func24, Tryz.ntmps24
  go_wp2_with fail
  refine H.out.mono ?_
  rintro e w' ⟨gk, gd, gl, gp, ga, rfl, h⟩
  have HH := Lib.hid h
  clear h H
  go_wp2_with fail
  go_ret
  exact ⟨gk, gd, gl, gp, ga, rfl, HH.out⟩
end Go.Proofs.YtafopojibpifoaaGreat

/- A tree in memory: its block, the act on its pages, what its pages are known to be; tree.New, none, Root, Act. -/
namespace Go.Proofs.YtafopojibpifoaaGreat
open Go.RowKit Go.Conc

/-- Some of what is kept is turned, by somebody else; new blocks are kept too. -/
theorem DgAt.go {ly : Ly} {pg : Nat → Sp.Pg} {K K' T F' : Foot} {w w' : World} {gd gl gp n : Nat} {L : List (Nat × Nat)} (h : DgAt ly pg K w gd gl gp n L) (ht : Turns T F' w w') (hT : ∀ b, T b → K b ∨ w.heap.size ≤ b) (hK : ∀ b, K' b → K b ∨ (w.heap.size ≤ b ∧ b < w'.heap.size)) : DgAt ly pg K' w' gd gl gp n L := by
  obtain ⟨hok, p, D, F, dk, hd, hlk, hpl, hn, hfr, hL, hDF, hb0, hKl⟩ := h
  have hin := hd.in_
  have hlt := hpl.lt
  have hnT : ∀ b, D b ∨ F b → ¬ T b := fun b hb hT' => by
    rcases hT b hT' with h | h
    · exact hb0 b hb h
    · rcases hb with hb | hb
      · have := hin b hb; omega
      · have := hlt b hb; omega
  refine ⟨hok, p, D, F, dk, hd.keep (fun b hb => ht.block b (hin b hb) (hnT b (.inl hb))), hlk, hpl.keep ht.size (fun b hb => ht.block b (hlt b hb) (hnT b (.inr hb))), hn, hfr, hL, hDF, fun b hb hk => ?_, fun b hk => ?_⟩
  · rcases hK b hk with h | h
    · exact hb0 b hb h
    · rcases hb with hb | hb
      · have := hin b hb; omega
      · have := hlt b hb; omega
  · rcases hK b hk with h | h
    · exact Nat.lt_of_lt_of_le (hKl b h) ht.size
    · exact h.2
/-- A tree (block gt): its act (block ga), its root. -/
structure TrAt (ly : Ly) (pg : Nat → Sp.Pg) (K : Foot) (w : World) (gt root ga gd gl gp n : Nat) : Prop where
  ac : AcAt ly pg K w ga gd gl gp n
  tree : Blk w gt 86 #[ptr ga, .int .u32 root]
  k : K gt
/-- What its pages are known to be. -/
def Known (ly : Ly) (pg : Nat → Sp.Pg) (kn : Nat → Option Sp.Kn) : Prop := ∀ q x, kn q = some x → 1 ≤ q ∧ q ≤ ly.top ∧ Sp.KnOk (pg q) x
section
variable {ly : Ly} {pg : Nat → Sp.Pg} {K K' T F' : Foot} {w w' : World} {gt root ga gd gl gp n : Nat}
theorem TrAt.go (h : TrAt ly pg K w gt root ga gd gl gp n) (ht : Turns T F' w w') (hT : ∀ b, T b → (K b ∧ b ≠ ga ∧ b ≠ gt) ∨ w.heap.size ≤ b) (hK : ∀ b, K' b → K b ∨ (w.heap.size ≤ b ∧ b < w'.heap.size)) (hka : K' ga) (hkt : K' gt) : TrAt ly pg K' w' gt root ga gd gl gp n := by
  obtain ⟨⟨⟨h1, L, hL, hz⟩, hact, hk1⟩, htree, hk2⟩ := h
  have hl1 := hact.lt
  have hl2 := htree.lt
  exact ⟨⟨⟨h1, L, hL.go ht (fun b hb => (hT b hb).imp (fun h => h.1) id) hK, hz⟩, hact.turns ht (fun h => by
    rcases hT ga h with h | h
    · exact h.2.1 rfl
    · omega), hka⟩, htree.turns ht (fun h => by
    rcases hT gt h with h | h
    · exact h.2.2 rfl
    · omega), hkt⟩
theorem TrAt.more (h : TrAt ly pg K w gt root ga gd gl gp n) (hb : Below w.heap.size w w') (hK : ∀ b, K' b → K b ∨ (w.heap.size ≤ b ∧ b < w'.heap.size)) (hka : K' ga) (hkt : K' gt) : TrAt ly pg K' w' gt root ga gd gl gp n :=
  h.go (Turns.of_below hb noFoot) (fun _ h => h.elim) hK hka hkt
theorem TrAt.below (h : TrAt ly pg K w gt root ga gd gl gp n) (hb : Below w.heap.size w w') : TrAt ly pg K w' gt root ga gd gl gp n := h.more hb (fun _ h => .inl h) h.ac.k h.k
theorem TrAt.less (h : TrAt ly pg K w gt root ga gd gl gp n) (hk : ∀ b, K' b → K b) (hka : K' ga) (hkt : K' gt) : TrAt ly pg K' w gt root ga gd gl gp n := ⟨h.ac.less hk hka, h.tree, hkt⟩
theorem TrAt.lt (h : TrAt ly pg K w gt root ga gd gl gp n) : ∀ b, K b → b < w.heap.size := h.ac.lt
theorem TrAt.ne (h : TrAt ly pg K w gt root ga gd gl gp n) : ga ≠ gt := h.ac.act.ne_ h.tree (by decide)
theorem TrAt.drew (h : TrAt ly pg K w gt root ga gd gl gp n) : TrAt ly pg K w.drew gt root ga gd gl gp n := h.below (Below.refl _ w).drew
theorem TrAt.cells (h : TrAt ly pg K w gt root ga gd gl gp n) : w.cell? ⟨gt, 0, none⟩ = some (ptr ga) ∧ w.cell? ⟨gt, 1, none⟩ = some (.int .u32 root) ∧ w.cell? ⟨ga, 0, none⟩ = some (ptr gp) ∧ w.cell? ⟨ga, 1, none⟩ = some (ptr gl) := ⟨h.tree.cell 0, h.tree.cell 1, h.ac.act.cell 0, h.ac.act.cell 1⟩
theorem TrAt.ok (h : TrAt ly pg K w gt root ga gd gl gp n) : PgOkT ly pg := h.ac.dz.ok
end

theorem tree_new (ga root : Nat) (h1 : 1 ≤ root) (h2 : root ≤ 1024) (w : World) : Calls Tryz.prog 15 #[ptr ga, u32v root] w fun e w' => e = .returned (.tuple #[ptr w.heap.size, .int .i64 0]) ∧ w' = w.alloc (.cells #[ptr ga, .int .u32 root] 86) := by
  have d1 : decide ((root : Int) < 1) = false := by rw [decide_eq_false_iff_not]; omega
  have d2 : decide ((1024 : Int) < root) = false := by rw [decide_eq_false_iff_not]; omega
  go_enter Tryz.func15, Tryz.ntmps15
  go_wp2_with fail
  go_ret2
  exact ⟨rfl, rfl⟩
theorem tree_none {w : World} {gt ga root : Nat} (h : Blk w gt 86 #[ptr ga, .int .u32 root]) : Calls Tryz.prog 25 #[ptr gt] w fun e w' => e = .returned (.bool false) ∧ w' = w := by
  have c0 := h.cell 0
  have c1 := h.cell 1
  simp only [List.getElem?_toArray, List.getElem?_cons_succ, List.getElem?_cons_zero] at c0 c1
  go_enter Tryz.func25, Tryz.ntmps25
  go_wp2_with fail
  go_ret
  exact ⟨rfl, rfl⟩
theorem tree_root {w : World} {gt ga root : Nat} (h : Blk w gt 86 #[ptr ga, .int .u32 root]) : Calls Tryz.prog 17 #[ptr gt] w fun e w' => e = .returned (.int .u32 root) ∧ w' = w := by
  have c0 := h.cell 0
  have c1 := h.cell 1
  simp only [List.getElem?_toArray, List.getElem?_cons_succ, List.getElem?_cons_zero] at c0 c1
  go_enter Tryz.func17, Tryz.ntmps17
  go_wp2_with fail
  go_ret
  exact ⟨rfl, rfl⟩

/-- A page that is known: its check, as far as it goes. -/
theorem known_leaf {p : Sp.Pg} {rs : List Sp.Rw} (h : Sp.KnOk p (.leaf rs)) : Sp.NodePg p (Sp.keysR rs) := ⟨h.2, .inl ⟨rs, h.1, rfl⟩⟩
theorem known_inner {p : Sp.Pg} {es : List Sp.En} (h : Sp.KnOk p (.inner es)) : Sp.NodePg p (es.map (·.key)) := ⟨h.2, .inr ⟨es, h.1, rfl⟩⟩

/-- The page that act.Page hands back. -/
def PageBack (ly : Ly) (pg : Nat → Sp.Pg) (K : Foot) (w : World) (gt root ga gd gl gp n q : Nat) (e : Ending) (w' : World) : Prop :=
  ∃ A c, e = .returned (.tuple #[pgV (pg q) A c, .int .i64 0]) ∧ OkAddr A ∧ RowsAt (fun b => w.heap.size ≤ b ∧ rowK A (pg q).rows.length b) w' A (pg q).rows ∧ TrAt ly pg (fun b => K b ∨ rowK A (pg q).rows.length b) w' gt root ga gd gl gp n ∧ Kept K w w'
theorem tree_page {ly : Ly} {pg : Nat → Sp.Pg} {K : Foot} {w : World} {gt root ga gd gl gp n : Nat} (h : TrAt ly pg K w gt root ga gd gl gp n) {q : Nat} (h1 : 1 ≤ q) (hT : q ≤ ly.top) :
    Calls Tryz.prog 27 #[ptr ga, u32v q] w (PageBack ly pg K w gt root ga gd gl gp n q) := by
  refine (act_page h.ac h1 hT).mono ?_
  rintro e w' ⟨A, c, rfl, hA, hR, hac, hk⟩
  exact ⟨A, c, rfl, hA, hR, ⟨hac, h.tree.kept hk h.k, .inl h.k⟩, hk⟩
end Go.Proofs.YtafopojibpifoaaGreat

/- The walks of the law package pentimentolaw18: pages, made: a tree on pages that are handed in. -/
namespace Go.Proofs.YtafopojibpifoaaGreat
open Go.RowKit Go.Conc

namespace Sp
/-- Can all pages be there? -/
def canB (l : List Pg) : Bool := (List.range 12).all fun q => mayB (pick l (q + 1))
theorem canB_at {l : List Pg} (h : canB l = true) {q : Nat} (h1 : 1 ≤ q) (h2 : q ≤ 12) : mayB (pick l q) = true := by
  have := List.all_eq_true.1 h (q - 1) (List.mem_range.2 (by omega))
  rwa [Nat.sub_add_cancel h1] at this
theorem canB_not {l : List Pg} {q : Nat} (h1 : 1 ≤ q) (h2 : q ≤ 12) (h : mayB (pick l q) = false) : canB l = false := by
  cases hc : canB l with
  | false => rfl
  | true => rw [canB_at hc h1 h2] at h; cases h
theorem canB_of {l : List Pg} (h : ∀ q, 1 ≤ q → q < 13 → mayB (pick l q) = true) : canB l = true := by
  unfold canB
  rw [List.all_eq_true]
  intro q hq
  have := List.mem_range.1 hq
  exact h (q + 1) (by omega) (by omega)
theorem pick_map (l : List Pg) (q : Nat) : ∀ (L : List Nat) (x : Pg), (x = pick l q ∨ q ∈ L) → (L.map (pick l)).foldl (fun x p => if p.id = q then p else x) x = pick l q
  | [], x, h => by
    rcases h with h | h
    · exact h
    · simp at h
  | n :: L, x, h => by
    rw [List.map_cons, List.foldl_cons, pick_id]
    refine pick_map l q L _ ?_
    by_cases e : n = q
    · rw [if_pos e, e]; exact .inl rfl
    · rw [if_neg e]
      rcases h with h | h
      · exact .inl h
      · rcases List.mem_cons.1 h with h | h
        · exact absurd h.symm e
        · exact .inr h
/-- The 13 pages. -/
def all13 (l : List Pg) : List Pg := (List.range 13).map (pick l)
theorem pick_all (l : List Pg) {q : Nat} (h1 : 1 ≤ q) (h2 : q ≤ 12) : pick ((all13 l).drop 1) q = pick l q := by
  have e : (all13 l).drop 1 = ((List.range 13).drop 1).map (pick l) := by unfold all13; rw [List.map_drop]
  rw [e]
  exact pick_map l q _ _ (.inr (by
    have : q ∈ List.range 13 := List.mem_range.2 (by omega)
    rw [show List.range 13 = 0 :: (List.range 13).drop 1 from rfl] at this
    rcases List.mem_cons.1 this with h | h
    · omega
    · exact h))
end Sp

theorem PgsL.drop1 {G : Foot} {w : World} {b o : Nat} {l : List Sp.Pg} (h : PgsL G w b o l) : PgsL G w b (o + 6) (l.drop 1) := fun q hq => by
  have hq' : q + 1 < l.length := by rw [List.length_drop] at hq; omega
  have e : (l.drop 1)[q] = l[q + 1] := by simp
  rw [e]
  have h0 := h (q + 1) hq'
  have e2 : o + 6 + q * 6 = o + (q + 1) * 6 := by omega
  rw [e2]
  exact h0
/-- Only the pages from 1 on count. -/
theorem AcAt.pages {ly : Ly} {pg pg' : Nat → Sp.Pg} {K : Foot} {w : World} {ga gd gl gp n : Nat} (h : AcAt ly pg K w ga gd gl gp n) (he : ∀ q, 1 ≤ q → q ≤ ly.top → pg q = pg' q) : AcAt ly pg' K w ga gd gl gp n := by
  obtain ⟨⟨h1, L, ⟨hok, p, D, F, dk, hd, hlk, hpl, hn, hfr, hL, hDF, hb0, hKl⟩, hz⟩, hact, hk⟩ := h
  exact ⟨⟨h1, L, ⟨fun q h1 h2 => he q h1 h2 ▸ hok q h1 h2, p, D, F, dk, hd, ⟨hlk.len, hlk.loose, hlk.fuse, fun q h1 h2 => he q h1 h2 ▸ hlk.page q h1 h2⟩, hpl, hn, fun it hit => by
    obtain ⟨f1, f2, f3, f4⟩ := hfr it hit
    exact ⟨f1, f2.trans (he _ f3 f4), f3, f4⟩, hL, hDF, hb0, hKl⟩, hz⟩, hact, hk⟩

/-- A page's cells. -/
abbrev pgl (p : Sp.Pg) (A : Option Addr) (c : Nat) : List Value := [.int .u8 p.kind, .int .u8 p.level, .int .u32 p.id, .int .u64 p.lsn, .int .u32 p.next, .slice A p.rows.length c]
/-- Pages in a row of one's own. -/
def PgOwn (w0 : Nat) (G : Foot) (v : Value) (k : Nat) (f : Nat → Sp.Pg) (wr : World) : Prop :=
  ∃ (A : Nat → Option Addr) (c : Nat → Nat), wr.ownsRow w0 51 6 v k ((List.range k).flatMap fun q => pgl (f q) (A q) (c q)) ∧ ∀ q, q < k → RowsAt G wr (A q) (f q).rows
theorem PgOwn.zero (w0 : Nat) (G : Foot) (f : Nat → Sp.Pg) (wr : World) : PgOwn w0 G (.slice none 0 0) 0 f wr := ⟨fun _ => none, fun _ => 0, World.ownsRow_nil _ _ _ _, fun q h => absurd h (by omega)⟩
theorem flatMap_range_eq {k : Nat} {f g : Nat → List Value} (h : ∀ q, q < k → f q = g q) : (List.range k).flatMap f = (List.range k).flatMap g := by
  induction k with
  | zero => rfl
  | succ k ih => rw [List.range_succ, List.flatMap_append, List.flatMap_append, ih (fun q hq => h q (by omega))]; simp [h k (by omega)]
theorem PgOwn.more {w0 : Nat} {G : Foot} {v' : Value} {k : Nat} {f : Nat → Sp.Pg} {w' : World} {A : Nat → Option Addr} {c : Nat → Nat} {A1 : Option Addr} {c1 : Nat} (hA : ∀ q, q < k → RowsAt G w' (A q) (f q).rows) (h1 : RowsAt G w' A1 (f k).rows)
    (q1 : w'.ownsRow w0 51 6 v' (k + 1) (((List.range k).flatMap fun q => pgl (f q) (A q) (c q)) ++ pgl (f k) A1 c1)) : PgOwn w0 G v' (k + 1) f w' := by
  refine ⟨fun q => if q = k then A1 else A q, fun q => if q = k then c1 else c q, ?_, fun q hq => ?_⟩
  · rw [List.range_succ, List.flatMap_append]
    have e : ((List.range k).flatMap fun q => pgl (f q) (if q = k then A1 else A q) (if q = k then c1 else c q)) = (List.range k).flatMap fun q => pgl (f q) (A q) (c q) := flatMap_range_eq (fun q hq => by rw [if_neg (by omega), if_neg (by omega)])
    rw [e]
    simpa using q1
  · by_cases e : q = k
    · subst e; simpa using h1
    · show RowsAt G w' (if q = k then A1 else A q) (f q).rows
      rw [if_neg e]; exact hA q (by omega)
theorem flat6_get (f : Nat → List Value) (hf : ∀ i, (f i).length = 6) : ∀ m i j, i < m → j < 6 → ((List.range m).flatMap f)[i * 6 + j]? = (f i)[j]? := fun m i j h hj => by
  have key : ∀ m, ((List.range m).flatMap f).length = m * 6 := fun m => by
    induction m with
    | zero => rfl
    | succ m ih => rw [List.range_succ, List.flatMap_append, List.length_append, ih]; simp [hf]; omega
  induction m with
  | zero => omega
  | succ m ih =>
    rw [List.range_succ, List.flatMap_append]
    by_cases e : i < m
    · rw [List.getElem?_append_left (by rw [key]; omega), ih e]
    · have : i = m := by omega
      subst this
      rw [List.getElem?_append_right (by rw [key]; omega), key]
      simp
/-- As pages that are read. -/
theorem PgOwn.reads {w0 : Nat} {G : Foot} {v : Value} {k : Nat} {f : Nat → Sp.Pg} {wr : World} (h : PgOwn w0 G v k f wr) (h1 : 1 ≤ k) : ∃ b c, v = .slice (some ⟨b, 0, none⟩) k c ∧ k ≤ c ∧ w0 ≤ b ∧ b < wr.heap.size ∧ PgsL G wr b 0 ((List.range k).map f) := by
  obtain ⟨A, c, ho, hR⟩ := h
  obtain ⟨b, c', rfl⟩ := own_form' ho h1
  have hb := ho.lt b rfl
  have hkc : k ≤ c' := by
    rcases ho.2 with ⟨h0, _⟩ | ⟨g, cap, cur, e, _, _, hc6, _⟩
    · cases h0
    · injection e with _ _ e3
      omega
  refine ⟨b, c', rfl, hkc, hb.1, hb.2, fun q hq => ?_⟩
  have hq' : q < k := by simpa using hq
  have e : ((List.range k).map f)[q] = f q := by simp
  rw [e]
  have key : ∀ j (hj : j < 6), wr.cell? ⟨b, 0 + q * 6 + j, none⟩ = (pgl (f q) (A q) (c q))[j]? := fun j hj => by
    have e := flat6_get (fun q => pgl (f q) (A q) (c q)) (fun _ => rfl) k q j hq' hj
    have hx : (pgl (f q) (A q) (c q))[j]? = some ((pgl (f q) (A q) (c q))[j]'(by simpa using hj)) := List.getElem?_eq_getElem _
    rw [hx] at e ⊢
    have := ho.cells (g := b) rfl (q * 6 + j) _ e
    rw [Nat.zero_add]
    have e2 : (⟨b, 0, none⟩ : Addr).add (q * 6 + j) = ⟨b, q * 6 + j, none⟩ := by
      cases q * 6 + j <;> simp [Addr.add]
    rw [e2] at this; exact this
  exact ⟨A q, c q, hR q hq', key 0 (by omega), key 1 (by omega), key 2 (by omega), key 3 (by omega), key 4 (by omega), key 5 (by omega)⟩

/-- What pages hands back. -/
def PagesPost (l : List Sp.Pg) (G : Foot) (w : World) (e : Ending) (w' : World) : Prop :=
  Below w.heap.size w w' ∧ ((Sp.canB l = false ∧ e = .returned (.tuple #[.slice none 0 0, .bool false])) ∨
    (Sp.canB l = true ∧ ∃ v, e = .returned (.tuple #[v, .bool true]) ∧ PgOwn w.heap.size G v 13 (Sp.pick l) w'))

set_option maxRecDepth 100000 in
set_option maxHeartbeats 8000000 in
theorem law18_pages {w : World} {G : Foot} {l : List Sp.Pg} {b o cap : Nat} (hl : PgsL G w b o l) (hbl : b < w.heap.size) (hG : ∀ x, G x → x < w.heap.size) (hok : ∀ q, 1 ≤ q → q ≤ 12 → (Sp.pick l q).rows.length ≤ 1000000000 ∧ Sp.total (Sp.pick l q).rows ≤ 1000000000) (hll : l.length ≤ 1000) :
    Calls Tryz.prog 9 #[.slice (some ⟨b, o, none⟩) l.length cap] w (PagesPost l G w) := by
  obtain ⟨ip, hip, hp0, hp1, hp2⟩ := info_parts page_info
  have HL := Lib.hid hl
  have HG := Lib.hid hG
  have HOK := Lib.hid hok
  clear hl hG hok
  go_enter Tryz.func9, Tryz.ntmps9
  go_wp2_with fail
  go_loopw [4, 5] (fun v i wr => ∃ (k : Nat) (u : Value), u = v ∧ k ≤ 13 ∧ i = .int .u32 k ∧ PgOwn w.heap.size G u k (Sp.pick l) wr ∧ (∀ q, 1 ≤ q → q < k → mayB (Sp.pick l q) = true) ∧ Below w.heap.size w wr) (fun _ i _ => 13 - (intOf i).toNat)
  case atStart => exact ⟨0, _, rfl, by omega, rfl, PgOwn.zero _ _ _ _, fun q h1 h2 => by omega, Below.refl _ _⟩
  case round =>
    obtain ⟨k, v, rfl, hk13, rfl, hO, hmay, hbr⟩ := hrel
    have HO := Lib.hid hO
    have HMAY := Lib.hid hmay
    clear hO hmay
    by_cases hlt : k < 13
    · have HZ := Lib.hid fun (W : World) => law17_zero k W
      have d7 : decide ((k : Int) ≤ 12) = true := by rw [decide_eq_true_eq]; omega
      go_wp2_with fail
      refine (HZ.out wr).mono ?_
      rintro e w4 ⟨rfl, hb4⟩
      have hb5 := hb4.alloc hb4.size (.cells (pgCs (Sp.zeroPg k) none 0) 51)
      have hB5 := Blk.new w4 51 (pgCs (Sp.zeroPg k) none 0)
      have hs4 := hb4.size
      have HBR := Lib.hid hbr
      clear HZ hb4 hbr
      go_wp2_with fail
      change Code.wp _ _ _ _ (w4.alloc (.cells (pgCs (Sp.zeroPg k) none 0) 51))
      obtain ⟨g, hg⟩ : ∃ g, g = w4.heap.size := ⟨_, rfl⟩
      obtain ⟨w5, hw5⟩ : ∃ w5, w5 = w4.alloc (.cells (pgCs (Sp.zeroPg k) none 0) 51) := ⟨_, rfl⟩
      rw [← hw5] at hb5 hB5 ⊢
      rw [← hg] at hB5 hs4 ⊢
      clear hw5 hg
      have HP0 := Lib.hid (show PickAt l G k g 0 w5 w5 from ⟨none, 0, ⟨rfl, fun h => absurd h (by simp [Sp.pick, Sp.zeroPg])⟩, hB5, Turns.refl _ _⟩)
      clear hB5
      go_loopw [7] (fun i wx => ∃ m : Nat, m ≤ l.length ∧ i = .int .i64 m ∧ PickAt l G k g m w5 wx) (fun i _ => l.length - (intOf i).toNat)
      case atStart => exact ⟨0, by omega, rfl, HP0.out⟩
      case round =>
        clear HP0
        obtain ⟨m, hm, rfl, A, c, hR, hB, hT⟩ := hrel
        have hww : Below w.heap.size w w5 := HBR.out.trans (hb5.mono HBR.out.size)
        have hgw : w.heap.size ≤ g := by have := HBR.out.size; omega
        have hbx : Below w.heap.size w wr := hww.trans (hT.below hww.size (fun b hb => by have e : b = g := hb; omega))
        by_cases hmt : m < l.length
        · obtain ⟨A2, c2, hR2, x0, x1, x2, x3, x4, x5⟩ := HL.out.below hbx hbl HG.out m hmt
          have hpk := Sp.pick_take hmt k
          obtain ⟨p, hp⟩ : ∃ p, p = l[m] := ⟨_, rfl⟩
          rw [← hp] at hR2 x0 x1 x2 x3 x4 x5 hpk
          clear hp
          by_cases e : p.id = k
          · rw [if_pos e] at hpk
            have HPK := Lib.hid hpk
            have HB := Lib.hid hB
            have HR2 := Lib.hid hR2
            have HB2 := Lib.hid (hB.setRow (pgCs p A2 c2))
            have HT2 := Lib.hid (hT.setRow (.inl rfl) (pgCs p A2 c2))
            have hgx : ∀ x, G x → x ≠ g := fun x hx => by have := HG.out x hx; omega
            clear hpk hR hB hT hR2
            have e1 : decide ((p.id : Int) = (k : Int)) = true := by rw [decide_eq_true_eq]; omega
            have e2 : ((p.id : Int) == (k : Int)) = true := by rw [beq_iff_eq]; omega
            clear e
            go_wp2_with (refine wpList_store_part rfl _ _ _ rfl g 0 (pgCs p A2 c2) rfl rfl _ _ HB.out page_size (by show 0 + 6 ≤ 6; omega) (by simp [Value.oneCell']) ?_)
            go_roundw
            case rel => exact ⟨m + 1, hmt, by go_num, A2, c2, by rw [HPK.out]; exact HR2.out.keep (by simp) (fun x hx => heap_setRow_other _ _ _ _ (hgx x hx)), by rw [HPK.out]; exact HB2.out, HT2.out⟩
            case measure => simp [intOf]; omega
          · rw [if_neg e] at hpk
            have HPK := Lib.hid hpk
            have HB := Lib.hid hB
            have HR := Lib.hid hR
            have HT := Lib.hid hT
            clear hpk hR2 hB hR hT
            have e1 : decide ((p.id : Int) = (k : Int)) = false := by rw [decide_eq_false_iff_not]; omega
            have e2 : ((p.id : Int) == (k : Int)) = false := by rw [beq_eq_false_iff_ne]; omega
            clear e
            go_wp2_with fail
            go_roundw
            case rel => exact ⟨m + 1, hmt, by go_num, A, c, by rw [HPK.out]; exact HR.out, by rw [HPK.out]; exact HB.out, HT.out⟩
            case measure => simp [intOf]; omega
        · obtain rfl : m = l.length := by omega
          rw [List.take_length] at hR hB
          obtain ⟨wx, hwx⟩ : ∃ wx : World, wx = wr := ⟨_, rfl⟩
          subst hwx
          obtain ⟨A0, c0, hown, hRs⟩ := HO.out
          have hTd := hb5.trans ((hT.below hb5.size (fun b hb => by have e : b = g := hb; omega)))
          have hownx := row_keep' hown (fun b hb => hTd.block b (hown.lt b hb).2)
          have hRx : ∀ q, q < k → RowsAt G wx (A0 q) (Sp.pick l q).rows := fun q hq => (hRs q hq).keep hTd.size (fun x hx => (hbx.block x (HG.out x hx)).trans ((HBR.out.block x (HG.out x hx)).symm))
          have HOX := Lib.hid hownx
          have HRX := Lib.hid hRx
          have HBX := Lib.hid hbx
          have HTD := Lib.hid hTd
          have hgx : ∀ x, G x → x < w.heap.size := HG.out
          obtain ⟨q0, q1, q2, q3, q4, q5⟩ := page_cells hB
          have HB := Lib.hid hB
          have HR := Lib.hid hR
          clear hown hRs hTd hownx hRx hbx hB hR hT hww hgx q0 q1 q2 q3 q4 q5
          go_upto_region 11 with fail
          go_cut [37] from 31 to 36 (fun u w6 => u = .bool (decide (1 ≤ k) && !mayB (Sp.pick l k)) ∧ Below wx.heap.size wx w6)
          case first =>
            obtain ⟨q0, q1, q2, q3, q4, q5⟩ := page_cells HB.out
            rcases Nat.eq_zero_or_pos k with h0 | h0
            · have e1 : decide ((0 : Int) < (k : Int)) = false := by rw [decide_eq_false_iff_not]; omega
              have HLK := Lib.hid (show (decide (1 ≤ k) && !mayB (Sp.pick l k)) = false by rw [decide_eq_false (by omega)]; rfl)
              have e2 : decide (0 < k) = false := by rw [decide_eq_false_iff_not]; omega
              clear h0
              go_wp2_with fail
              go_meet
              case rel => exact ⟨by rw [HLK.out], Below.refl _ _⟩
            · have e1 : decide ((0 : Int) < (k : Int)) = true := by rw [decide_eq_true_eq]; omega
              have hz := HOK.out k h0 (by omega)
              have HM := Lib.hid (ref06_may (c := c) HR.out hz.1 hz.2)
              have HLK := Lib.hid (show (decide (1 ≤ k) && !mayB (Sp.pick l k)) = !mayB (Sp.pick l k) by rw [decide_eq_true (show 1 ≤ k from h0)]; rfl)
              clear hz
              go_wp2_with fail
              refine HM.out.mono ?_
              rintro e w6 ⟨rfl, hb6⟩
              clear HM
              go_wp2_with fail
              go_meet
              case rel => exact ⟨by rw [HLK.out], hb6⟩
          case rest =>
          obtain ⟨rfl, hb6⟩ := hcut
          have hbc : Below w.heap.size w wc := HBX.out.trans (hb6.mono HBX.out.size)
          cases hb : (decide (1 ≤ k) && !mayB (Sp.pick l k)) with
          | true =>
            have hb' : 1 ≤ k ∧ mayB (Sp.pick l k) = false := by simpa using hb
            have HC := Lib.hid (Sp.canB_not hb'.1 (by omega) hb'.2)
            clear hb hb'
            go_wp2_with fail
            go_ret2
            exact ⟨hbc, .inl ⟨HC.out, rfl⟩⟩
          | false =>
            have hmk : 1 ≤ k → mayB (Sp.pick l k) = true := fun h1 => by
              cases hm' : mayB (Sp.pick l k) with
              | true => rfl
              | false => rw [hm', decide_eq_true h1] at hb; cases hb
            have HMK := Lib.hid hmk
            have hBc := HB.out.below hb6 HB.out.lt
            obtain ⟨q0, q1, q2, q3, q4, q5⟩ := page_cells hBc
            have hoc := row_keep' HOX.out (fun b hb => hb6.block b (HOX.out.lt b hb).2)
            have HOC := Lib.hid hoc
            have hRc : RowsAt G wc A (Sp.pick l k).rows := Reads.below HR.out hb6
            have hRcs : ∀ q, q < k → RowsAt G wc (A0 q) (Sp.pick l q).rows := fun q hq => Reads.below (HRX.out q hq) hb6
            have HRC := Lib.hid hRc
            have HRCS := Lib.hid hRcs
            have HBC := Lib.hid hbc
            have hsz : w.heap.size ≤ wc.heap.size := hbc.size
            have wr32 : IntKind.u32.wrap ((k : Int) + 1) = ((k + 1 : Nat) : Int) := by rw [IntKind.wrap_u32]; omega
            clear hb hmk hBc hoc hRc hRcs hbc HOX HRX HBX HB HR
            go_wp2_with (at_builtin; refine wpList_append_own2 _ rfl _ _ 25 rfl w.heap.size 51 ip pgZero 6 48 Tryz.underlying25 hip hp0 hp1 hp2 rfl (by decide) _ k _ rfl (HOC.out.alloc _) ⟨wc.heap.size, 0, none⟩ 1 1 (pgl (Sp.pick l k) A c) rfl rfl (blk_news (cs := pgl (Sp.pick l k) A c) (Blk.new wc 51 (pgl (Sp.pick l k) A c).toArray)) (fun x hx => by simp [pgl] at hx; rcases hx with rfl | rfl | rfl | rfl | rfl | rfl <;> rfl) (by unfold maxLen; omega) (by omega) (by simp; omega) ?_; intro v' w7 q1 q2 q3)
            have hb7 := (HBC.out.alloc hsz (.cells (pgl (Sp.pick l k) A c).toArray 51)).grown q2 (by simp; omega) (fun r e => row_base HOC.out e)
            have hkp : ∀ x, G x → w7.heap[x]? = wc.heap[x]? := fun x hx => (hb7.block x (HG.out x hx)).trans ((HBC.out.block x (HG.out x hx)).symm)
            have hs7 : wc.heap.size ≤ w7.heap.size := by have := q2.size; simp at this; omega
            have HF := Lib.hid (PgOwn.more (G := G) (f := Sp.pick l) (fun q hq => (HRCS.out q hq).keep hs7 hkp) (HRC.out.keep hs7 hkp) q1)
            have HB7 := Lib.hid hb7
            clear q1 q2 q3 hb7 hkp hs7 HOC HRC HRCS HBC
            go_roundw
            case rel => exact ⟨k + 1, v', rfl, by omega, by go_num, HF.out, fun q h1 h2 => by
              by_cases e : q = k
              · subst e; exact HMK.out h1
              · exact HMAY.out q h1 (by omega), HB7.out⟩
            case measure => simp [intOf]; omega
    · obtain rfl : k = 13 := by omega
      have HC := Lib.hid (Sp.canB_of HMAY.out)
      clear HMAY
      go_wp2_with fail
      go_ret2
      exact ⟨hbr, .inr ⟨HC.out, _, rfl, HO.out⟩⟩

/-- What made hands back. -/
def MadeT (l : List Sp.Pg) (w : World) (root : Nat) (e : Ending) (w' : World) : Prop :=
  (Sp.canB l = false ∧ e = .returned (.tuple #[.pointer none, .pointer none]) ∧ Below w.heap.size w w') ∨
    (Sp.canB l = true ∧ ∃ gt gx ga gd gl gp, e = .returned (.tuple #[ptr gt, ptr gx]) ∧ TrAt ly17 (Sp.pick l) (fun b => b < w.heap.size ∨ b = gt ∨ b = ga) w' gt root ga gd gl gp 5 ∧ Below w.heap.size w w')

set_option maxRecDepth 100000 in
set_option maxHeartbeats 8000000 in
theorem law18_made {w : World} {G : Foot} {l : List Sp.Pg} {b o cap root : Nat} (hl : PgsL G w b o l) (hbl : b < w.heap.size) (hG : ∀ x, G x → x < w.heap.size) (hok : ∀ q, 1 ≤ q → q ≤ 12 → (Sp.pick l q).rows.length ≤ 1000000000 ∧ Sp.total (Sp.pick l q).rows ≤ 1000000000) (hll : l.length ≤ 1000)
    (hwf : ∀ q, 1 ≤ q → q ≤ 12 → (Sp.pick l q).wf) (h1 : 1 ≤ root) (h2 : root ≤ 1024) :
    Calls Tryz.prog 10 #[.slice (some ⟨b, o, none⟩) l.length cap, u32v root] w (MadeT l w root) := by
  have HP := Lib.hid (law18_pages (cap := cap) hl hbl hG hok hll)
  have HM := Lib.hid fun (W : World) (b' c' : Nat) (hb' : b' < W.heap.size) (hG' : ∀ x, G x → x < W.heap.size) (hc : Sp.canB l = true) (h : PgsL G W b' 6 ((Sp.all13 l).drop 1)) => law17_made 5 (by omega) (by omega) (cap := c') h hb' hG' (fun q h1 h2 => by rw [Sp.pick_all l h1 h2]; exact ⟨hwf q h1 h2, (mayB_iff _).1 (Sp.canB_at hc h1 h2)⟩) (by simp [Sp.all13])
  have HT := Lib.hid fun (ga : Nat) (W : World) => tree_new ga root h1 h2 W
  have HG := Lib.hid hG
  clear hl hG hok hwf
  go_enter Tryz.func10, Tryz.ntmps10
  go_wp2_with fail
  refine HP.out.mono ?_
  rintro e w1 ⟨hb1, (⟨hc, rfl⟩ | ⟨hc, v, rfl, hO⟩)⟩
  · have HC := Lib.hid hc
    clear hc HP
    go_wp2_with fail
    go_ret2
    exact .inl ⟨HC.out, rfl, hb1⟩
  · obtain ⟨b', c', rfl, hkc, hwb, hbl', hL⟩ := hO.reads (by omega)
    have hmm := HM.out w1 b' (c' - 1) hbl' (fun x hx => Nat.lt_of_lt_of_le (HG.out x hx) hb1.size) hc hL.drop1
    rw [show ((Sp.all13 l).drop 1).length = 12 by simp [Sp.all13]] at hmm
    have HMM := Lib.hid hmm
    have HC := Lib.hid hc
    clear HM HP hc hL hO hmm
    go_wp2_with fail
    refine HMM.out.mono ?_
    rintro e w2 ⟨gk, gd, gl, gp, ga, rfl, hK, _, hAc, hb2⟩
    have c3 := hK.cell 3
    simp only [List.getElem?_toArray, List.getElem?_cons_succ, List.getElem?_cons_zero] at c3
    have HAC := Lib.hid hAc
    have hb12 : Below w.heap.size w w2 := hb1.trans (hb2.mono hb1.size)
    clear hAc HMM hK
    go_wp2_with fail
    refine (HT.out ga w2).mono ?_
    rintro e w3 ⟨rfl, hw3⟩
    have hs12 := hb12.size
    have hs1 := hb1.size
    have hs2 := hb2.size
    have hAl := HAC.out.lt ga HAC.out.k
    have hac2 : AcAt ly17 (Sp.pick l) (fun b => b < w.heap.size ∨ b = ga) w2 ga gd gl gp 5 := (HAC.out.pages (fun q h1 h2 => Sp.pick_all l h1 h2)).less (fun b hb => by
      rcases hb with hb | hb
      · exact .inl (by omega)
      · exact .inr (.inr (.inl hb))) (.inr rfl)
    have hb3 := (Below.refl w2.heap.size w2).alloc (Nat.le_refl _) (.cells #[ptr ga, .int .u32 root] 86)
    have hT3 := Blk.new w2 86 #[ptr ga, .int .u32 root]
    rw [← hw3] at hb3 hT3
    have htr : TrAt ly17 (Sp.pick l) (fun b => b < w.heap.size ∨ b = w2.heap.size ∨ b = ga) w3 w2.heap.size root ga gd gl gp 5 := ⟨hac2.more hb3 (fun b hb => by
      rcases hb with hb | hb | hb
      · exact .inl (.inl hb)
      · exact .inr (by rw [hb, hw3]; simp)
      · exact .inl (.inr hb)) (.inr (.inr rfl)), hT3, .inr (.inl rfl)⟩
    have hb4 := hb12.trans (hb3.mono hs12)
    obtain ⟨gt, hgt⟩ : ∃ g, g = w2.heap.size := ⟨_, rfl⟩
    rw [← hgt] at htr ⊢
    have HTR := Lib.hid htr
    clear hac2 hb3 hT3 htr hw3 HAC c3 hgt
    go_wp2_with fail
    go_ret2
    exact .inr ⟨HC.out, gt, w3.heap.size, ga, gd, gl, gp, rfl, HTR.out.below ((Below.refl _ w3).alloc (Nat.le_refl _) _), hb4.alloc hb4.size _⟩
end Go.Proofs.YtafopojibpifoaaGreat

/- Results in slots and in cells, three of them. No program is named here. -/
namespace Go.Proofs.YtafopojibpifoaaGreat

theorem results_tct {fn : Func} {t p u : Tmp} {ty : TypeId} (h : fn.results = #[.tmp t, .cell p ty, .tmp u]) (tmps : Array Value) (P : Program) (w : World) :
    (results fn tmps).run P w = ((asAddr (tmps.getD p undef)).run P w).andThen fun a w₁ => ((loadVar ty a).run P w₁).andThen fun v w₂ => .ok (.tuple #[tmps.getD t undef, v, tmps.getD u undef]) w₂ := by
  simp only [results, h]
  simp [Sem.run_bind, Result.andThen]
theorem results_ctt {fn : Func} {t p u : Tmp} {ty : TypeId} (h : fn.results = #[.cell p ty, .tmp t, .tmp u]) (tmps : Array Value) (P : Program) (w : World) :
    (results fn tmps).run P w = ((asAddr (tmps.getD p undef)).run P w).andThen fun a w₁ => ((loadVar ty a).run P w₁).andThen fun v w₂ => .ok (.tuple #[v, tmps.getD t undef, tmps.getD u undef]) w₂ := by
  simp only [results, h]
  simp [Sem.run_bind, Result.andThen]
theorem results_cct {fn : Func} {p p' u : Tmp} {ty ty' : TypeId} (h : fn.results = #[.cell p ty, .cell p' ty', .tmp u]) (tmps : Array Value) (P : Program) (w : World) :
    (results fn tmps).run P w = ((asAddr (tmps.getD p undef)).run P w).andThen fun a w₁ => ((loadVar ty a).run P w₁).andThen fun v w₂ => ((asAddr (tmps.getD p' undef)).run P w₂).andThen fun a' w₃ => ((loadVar ty' a').run P w₃).andThen fun v' w₄ => .ok (.tuple #[v, v', tmps.getD u undef]) w₄ := by
  simp only [results, h]
  simp [Sem.run_bind, Result.andThen]
end Go.Proofs.YtafopojibpifoaaGreat
