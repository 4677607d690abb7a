/- The walks of package node: a row's key by its page's kind. -/
import Derived.Test.YtafopojibpifoaaGreatMAI
import Derived.Carry
import Derived.Shelf.Strings.Repeat
import Derived.Shelf.Bits.Mul64
import Derived.Shelf.Strings.Prefix
import Derived.Test.YtafopojibpifoaaGreatProg
import Derived.Test.YtafopojibpifoaaGreatMAH
import Derived.Test.YtafopojibpifoaaGreatMAB
import Derived.Test.YtafopojibpifoaaGreatMAG
import Derived.OwnWalk
import Derived.Test.YtafopojibpifoaaGreatMAC

namespace Go.Proofs.YtafopojibpifoaaGreat
open Go.RowKit

set_option maxRecDepth 100000 in
set_option maxHeartbeats 1000000 in
theorem keyOf_leaf (HR : RepZ) {r : Sp.Rw} (h1 : r.may) (h2 : r.wf) {gb : Nat} {w : World} (hB : Blk w gb 9 #[str r.bytes]) :
    Calls Tryz.prog 67 #[ptr gb] w fun e w' => e = .returned (.tuple #[str r.key, .int .i64 0]) ∧ Below w.heap.size w w' := by
  have HD := Lib.hid (row_decodeP HR r h1 h2 w)
  have c0 := hB.cell 0
  simp only [List.getElem?_toArray, List.getElem?_cons_zero] at c0
  go_enter Tryz.func67, Tryz.ntmps67
  go_wp2_with fail
  refine HD.out.mono ?_
  rintro e w1 ⟨rfl, hb⟩
  have hb2 := hb.alloc hb.size (.cells (rwCs r).toArray 43)
  go_wp2_with fail
  go_ret2
  exact ⟨rfl, hb2⟩
theorem keyOf_inner {e : Sp.En} (h1 : e.may) {gb : Nat} {w : World} (hB : Blk w gb 9 #[str e.bytes]) :
    Calls Tryz.prog 68 #[ptr gb] w fun x w' => x = .returned (.tuple #[str e.key, .int .i64 0]) ∧ Below w.heap.size w w' := by
  have HD := Lib.hid (row_decodeEntry e h1 w)
  have c0 := hB.cell 0
  simp only [List.getElem?_toArray, List.getElem?_cons_zero] at c0
  go_enter Tryz.func68, Tryz.ntmps68
  go_wp2_with fail
  refine HD.out.mono ?_
  rintro x w1 ⟨rfl, hb⟩
  have hb2 := hb.alloc hb.size (.cells (enCs e).toArray 66)
  go_wp2_with fail
  go_ret2
  exact ⟨rfl, hb2⟩
/-- A row's text, and its key, by its page's kind. -/
def RowKey (kind : Nat) (s k : Sp.Bs) : Prop := (kind = 1 ∧ ∃ r : Sp.Rw, r.may ∧ r.wf ∧ s = r.bytes ∧ k = r.key) ∨ (kind = 2 ∧ ∃ e : Sp.En, e.may ∧ s = e.bytes ∧ k = e.key)
set_option maxRecDepth 100000 in
theorem node_keyOf (HR : RepZ) {kind : Nat} {s k : Sp.Bs} (h : RowKey kind s k) (w : World) :
    Calls Tryz.prog 46 #[.int .u8 kind, str s] w fun e w' => e = .returned (.tuple #[str k, .int .i64 0]) ∧ Below w.heap.size w w' := by
  have hb := (Below.refl w.heap.size w).alloc (Nat.le_refl _) (.cells #[str s] 9)
  have hB := Blk.new w 9 #[str s]
  have hmm := @run_makeMap Tryz.prog
  have hb2 := hb.alloc (by simp) (.map #[] 0)
  have hB2 := hB.alloc (.map #[] 0)
  have hm2 : ((w.alloc (.cells #[str s] 9)).alloc (.map #[] 0)).heap[w.heap.size + 1]? = some (.map #[] 0) := by
    have := heap_alloc_new (w.alloc (.cells #[str s] 9)) (.map #[] 0)
    simpa using this
  obtain ⟨W3, hU1, hm3, hb3, hB3⟩ : ∃ W3, (Instr.mapUpdate 149 (.map (some (w.heap.size + 1))) (.int .u8 1) (.func (.func 67) #[] #[ptr w.heap.size])).run Tryz.prog ((w.alloc (.cells #[str s] 9)).alloc (.map #[] 0)) = .ok () W3 ∧
      W3.heap[w.heap.size + 1]? = some (.map #[{ key := .int .u8 1, val := .func (.func 67) #[] #[ptr w.heap.size], born := 0 }] 1) ∧ Below w.heap.size w W3 ∧ Blk W3 w.heap.size 9 #[str s] :=
    ⟨_, run_update_new Tryz.underlying149 Tryz.underlying5 (by simp [MapKept.IsKey]) hm2 rfl, mapW_at hm2 _ _, below_mapW hb2 hm2 (by omega) _ _, hB2.mapW hm2 (by omega) _ _⟩
  obtain ⟨W4, hU2, hm4, hb4, hB4⟩ : ∃ W4, (Instr.mapUpdate 149 (.map (some (w.heap.size + 1))) (.int .u8 2) (.func (.func 68) #[] #[ptr w.heap.size])).run Tryz.prog W3 = .ok () W4 ∧
      W4.heap[w.heap.size + 1]? = some (.map #[{ key := .int .u8 1, val := .func (.func 67) #[] #[ptr w.heap.size], born := 0 }, { key := .int .u8 2, val := .func (.func 68) #[] #[ptr w.heap.size], born := 1 }] 2) ∧ Below w.heap.size w W4 ∧ Blk W4 w.heap.size 9 #[str s] :=
    ⟨_, run_update_new Tryz.underlying149 Tryz.underlying5 (by simp [MapKept.IsKey]) hm3 rfl, mapW_at hm3 _ _, below_mapW hb3 hm3 (by omega) _ _, hB3.mapW hm3 (by omega) _ _⟩
  rcases h with ⟨rfl, r, h1, h2, rfl, rfl⟩ | ⟨rfl, x, h1, rfl, rfl⟩
  · have hL := run_lookup_there (P := Tryz.prog) (k := .int .u8 1) Tryz.underlying149 Tryz.underlying5 (by simp [MapKept.IsKey]) hm4 rfl
    have HC := Lib.hid (keyOf_leaf HR h1 h2 hB4)
    clear hm2 hm3 hm4 hb hb2 hb3 hB hB2 hB3
    go_enter Tryz.func46, Tryz.ntmps46
    go_wp2_with fail
    refine HC.out.mono ?_
    rintro e w5 ⟨rfl, hb5⟩
    have hbw := hb4.trans (hb5.mono hb4.size)
    go_wp2_with fail
    go_ret2
    exact ⟨rfl, hbw⟩
  · have hL := run_lookup_there (P := Tryz.prog) (k := .int .u8 2) Tryz.underlying149 Tryz.underlying5 (by simp [MapKept.IsKey]) hm4 rfl
    have HC := Lib.hid (keyOf_inner h1 hB4)
    clear hm2 hm3 hm4 hb hb2 hb3 hB hB2 hB3
    go_enter Tryz.func46, Tryz.ntmps46
    go_wp2_with fail
    refine HC.out.mono ?_
    rintro e w5 ⟨rfl, hb5⟩
    have hbw := hb4.trans (hb5.mono hb4.size)
    go_wp2_with fail
    go_ret2
    exact ⟨rfl, hbw⟩
end Go.Proofs.YtafopojibpifoaaGreat

/-
  DERIVED: THE SHELF's CONTRACTS AT THIS DUMP, IN PLAIN WORDS (tools/lay-plain.mjs out of 'TryzShel4.lean', which tools/lay-shelf.mjs wrote): THE SAME DECLARATIONS UNDER THE SAME NAMES: 'import', 'namespace', 'open', 'def', 'theorem' AND NOTHING ELSE: no command of the shelf's: FOR A HAND-IN. Each laying: the table of numbers ('.._ren') and one theorem, a field a fact of the dump's own or the kernel's comparison; each contract: ONE APPLICATION.
-/
namespace Go.Proofs
open Go.Shelf
def Tryz.lays105_ren : Go.Shelf.Ren := ⟨fun | 105 => 74 | 212 => 103 | 99 => 104 | 165 => 105 | 166 => 106 | 170 => 107 | 169 => 108 | 263 => 139 | 264 => 140 | 206 => 141 | 240 => 142 | 241 => 143 | 276 => 154 | 277 => 155 | n => n, fun | 9 => 9 | 3 => 3 | 4 => 4 | 20 => 20 | 0 => 0 | 46 => 153 | 109 => 194 | 5 => 5 | 72 => 199 | 76 => 203 | 51 => 33 | 146 => 226 | 53 => 38 | 148 => 228 | 70 => 197 | 37 => 102 | 75 => 202 | 127 => 230 | 164 => 242 | 80 => 122 | n => n, fun | n => n⟩
theorem Tryz.lays105 : Go.Proofs.Lays.n105 Tryz.prog Tryz.lays105_ren := {
  mixed := by kernel_rfl
  f99 := Tryz.func104.trans (congrArg some (by kernel_rfl))
  f105 := Tryz.func74.trans (congrArg some (by kernel_rfl))
  f165 := Tryz.func105.trans (congrArg some (by kernel_rfl))
  f166 := Tryz.func106.trans (congrArg some (by kernel_rfl))
  f169 := Tryz.func108.trans (congrArg some (by kernel_rfl))
  f170 := Tryz.func107.trans (congrArg some (by kernel_rfl))
  f206 := Tryz.func141.trans (congrArg some (by kernel_rfl))
  f212 := Tryz.func103.trans (congrArg some (by kernel_rfl))
  f240 := Tryz.func142.trans (congrArg some (by kernel_rfl))
  f241 := Tryz.func143.trans (congrArg some (by kernel_rfl))
  f263 := Tryz.func139.trans (congrArg some (by kernel_rfl))
  f264 := Tryz.func140.trans (congrArg some (by kernel_rfl))
  f276 := Tryz.func154.trans (congrArg some (by kernel_rfl))
  f277 := Tryz.func155.trans (congrArg some (by kernel_rfl))
  t0 := Tryz.underlying0
  a0 := Tryz.isAgg0
  z0 := Tryz.sizeOf0
  v0 := Tryz.zeroValue0
  t3 := Tryz.underlying3
  a3 := Tryz.isAgg3
  z3 := Tryz.sizeOf3
  v3 := Tryz.zeroValue3
  t4 := Tryz.underlying4
  a4 := Tryz.isAgg4
  z4 := Tryz.sizeOf4
  v4 := Tryz.zeroValue4
  t5 := Tryz.underlying5
  a5 := Tryz.isAgg5
  z5 := Tryz.sizeOf5
  v5 := Tryz.zeroValue5
  t9 := Tryz.underlying9
  a9 := Tryz.isAgg9
  z9 := Tryz.sizeOf9
  v9 := Tryz.zeroValue9
  t20 := Tryz.underlying20
  a20 := Tryz.isAgg20
  z20 := Tryz.sizeOf20
  v20 := Tryz.zeroValue20
  t37 := Tryz.underlying102
  a37 := Tryz.isAgg102
  z37 := Tryz.sizeOf102
  v37 := Tryz.zeroValue102
  t46 := Tryz.underlying153
  a46 := Tryz.isAgg153
  z46 := Tryz.sizeOf153
  v46 := Tryz.zeroValue153
  t51 := Tryz.underlying33
  a51 := Tryz.isAgg33
  z51 := Tryz.sizeOf33
  v51 := Tryz.zeroValue33
  t53 := Tryz.underlying38
  a53 := Tryz.isAgg38
  z53 := Tryz.sizeOf38
  v53 := Tryz.zeroValue38
  t70 := Tryz.underlying197
  a70 := Tryz.isAgg197
  z70 := Tryz.sizeOf197
  v70 := Tryz.zeroValue197
  t72 := Tryz.underlying199
  a72 := Tryz.isAgg199
  z72 := Tryz.sizeOf199
  v72 := Tryz.zeroValue199
  t75 := Tryz.underlying202
  a75 := Tryz.isAgg202
  z75 := Tryz.sizeOf202
  v75 := Tryz.zeroValue202
  t76 := Tryz.underlying203
  a76 := Tryz.isAgg203
  z76 := Tryz.sizeOf203
  v76 := Tryz.zeroValue203
  t109 := Tryz.underlying194
  a109 := Tryz.isAgg194
  z109 := Tryz.sizeOf194
  v109 := Tryz.zeroValue194
  t127 := Tryz.underlying230
  a127 := Tryz.isAgg230
  z127 := Tryz.sizeOf230
  v127 := Tryz.zeroValue230
  t146 := Tryz.underlying226
  a146 := Tryz.isAgg226
  z146 := Tryz.sizeOf226
  v146 := Tryz.zeroValue226
  t148 := Tryz.underlying228
  a148 := Tryz.isAgg228
  z148 := Tryz.sizeOf228
  v148 := Tryz.zeroValue228
  t164 := Tryz.underlying242
  a164 := Tryz.isAgg242
  z164 := Tryz.sizeOf242
  v164 := Tryz.zeroValue242 }
theorem Tryz.Builder_Extra_105 : Builder.Extra Tryz.prog Tryz.lays105_ren := {
  sizeBuilder := by kernel_rfl
  liesBuilder := by kernel_rfl
  t5 := Tryz.underlying5
  a5 := Tryz.isAgg5
  z5 := Tryz.sizeOf5
  v5 := Tryz.zeroValue5
  infoByte := by kernel_rfl
  cellsByte := by kernel_rfl
  sizeByte := by kernel_rfl
  neB5 := by decide }
open Go.RowKit Go.Lib in
/-- **strings.Repeat: count ≥ 0, the result within one allocation: count copies of s.** (LAID: no walk: one application.) -/
theorem Tryz.strings_Repeat (s : ByteArray) (c : Nat) (w : World) (hc : c ≤ 9223372036854775807) (hlen : s.size * c ≤ 140737488355328) :
    Calls Tryz.prog 74 #[.string s, .int .i64 c] w fun e w' => e = .returned (.string ⟨(Lib.repeatL s.data.toList c).toArray⟩) ∧ Below w.heap.size w w' := Any.strings_Repeat Tryz.lays105 Tryz.Builder_Extra_105 s c w hc hlen
end Go.Proofs

/- strings.Repeat of one zero byte, by the shelf's contract. -/
namespace Go.Proofs.YtafopojibpifoaaGreat
open Go.RowKit

theorem repeatL_zero : ∀ n : Nat, Lib.repeatL ([0] : Sp.Bs) n = Sp.zeros n := by
  intro n
  induction n with
  | zero => rfl
  | succ n ih => simp only [Lib.repeatL, ih]; rfl
theorem repZ : RepZ := fun n hn w => by
  have h := Tryz.strings_Repeat ⟨([0] : Sp.Bs).toArray⟩ n w (by omega) (by show 1 * n ≤ _; omega)
  have e : (⟨([0] : Sp.Bs).toArray⟩ : ByteArray).data.toList = [0] := rfl
  rw [e, repeatL_zero] at h
  exact h
end Go.Proofs.YtafopojibpifoaaGreat

/- The walks of package node: keys of a page that is a node, or none. -/
namespace Go.Proofs.YtafopojibpifoaaGreat
open Go.RowKit

theorem Sp.NodePg.key {p : Sp.Pg} {ks : List Sp.Bs} (h : Sp.NodePg p ks) {i : Nat} (hi : i < p.rows.length) (hi' : i < ks.length) : RowKey p.kind p.rows[i] ks[i] := by
  rcases h.2 with ⟨rs, ⟨h1, _, h3, h4⟩, rfl⟩ | ⟨es, ⟨h1, _, _, h3, h4⟩, rfl⟩
  · have hl : i < rs.length := by simpa using hi'
    have e : p.rows[i] = rs[i].bytes := by simp [h3]
    refine .inl ⟨h1, rs[i], (h4 _ (List.getElem_mem hl)).1, (h4 _ (List.getElem_mem hl)).2, e, by simp⟩
  · have hl : i < es.length := by simpa using hi'
    have e : p.rows[i] = es[i].bytes := by simp [h3]
    exact .inr ⟨h1, es[i], h4 _ (List.getElem_mem hl), e, by simp⟩
/-- A node by its kind and level. -/
def NodeHead (p : Sp.Pg) : Prop := (p.kind = 1 ∧ p.level = 0) ∨ (p.kind = 2 ∧ p.level ≠ 0 ∧ p.rows ≠ [])
theorem Sp.NodePg.head {p : Sp.Pg} {ks : List Sp.Bs} (h : Sp.NodePg p ks) : NodeHead p := by
  rcases h.2 with ⟨rs, ⟨h1, h2, h3, h4⟩, rfl⟩ | ⟨es, ⟨h1, h2, h2', h3, h4⟩, rfl⟩
  · exact .inl ⟨h1, h2⟩
  · exact .inr ⟨h1, h2, by rw [h3]; simpa using h2'⟩
theorem str_one : (Tryz.prog.info? 9).map (fun i => (i.zero, i.size, i.bytes)) = some (some (.string ByteArray.empty), 1, 16) := by kernel_rfl

/-- What the keys' search leaves. -/
def KeysPost (ks : List Sp.Bs) (w : World) (e : Ending) (w' : World) : Prop :=
  ∃ A c, e = .returned (.tuple #[.slice A ks.length c, .bool true]) ∧ OkAddr A ∧ RowsAt (fun b => w.heap.size ≤ b) w' A ks ∧ Below w.heap.size w w'

set_option maxRecDepth 100000 in
set_option maxHeartbeats 4000000 in
theorem node_keys {p : Sp.Pg} {ks : List Sp.Bs} (h : Sp.NodePg p ks) {G : Foot} {w : World} {A : Option Addr} {c : Nat} (hR : RowsAt G w A p.rows) (hl : p.rows.length ≤ 1000000) :
    Calls Tryz.prog 44 #[pgV p A c] w (KeysPost ks w) := by
  have hlen := h.len
  have hrise := h.1
  have hkey := Lib.hid fun (i : Nat) (hi : i < p.rows.length) (hi' : i < ks.length) => h.key hi hi'
  have hHd := h.head
  obtain ⟨kind, level, pid, lsn, next, rows⟩ := p
  dsimp only at *
  have HRI := Lib.hid hrise
  have HLEN := Lib.hid hlen
  have hb1 := (Below.refl w.heap.size w).alloc (Nat.le_refl _) (.cells #[.int .u8 kind, .int .u8 level, .int .u32 pid, .int .u64 lsn, .int .u32 next, .slice A rows.length c] 51)
  have hB1 := Blk.new w 51 #[.int .u8 kind, .int .u8 level, .int .u32 pid, .int .u64 lsn, .int .u32 next, .slice A rows.length c]
  have HR1 := Lib.hid (Reads.below hR hb1)
  obtain ⟨i0, hi, hz0, hz1, hz2⟩ := info_parts str_one
  have c0 := hB1.cell 0
  have c1 := hB1.cell 1
  have c5 := hB1.cell 5
  simp only [List.getElem?_toArray, List.getElem?_cons_succ, List.getElem?_cons_zero] at c0 c1 c5
  clear hR hrise h hlen
  have hx : (decide ((kind : Int) = 1) = true ∧ ((kind : Int) == 1) = true ∧ decide ((kind : Int) = 2) = false ∧ ((kind : Int) == 2) = false ∧ decide ((level : Int) = 0) = true ∧ ((level : Int) != 0) = false ∧ ((kind : Int) != 1) = false) ∨
      (decide ((kind : Int) = 1) = false ∧ ((kind : Int) == 1) = false ∧ decide ((kind : Int) = 2) = true ∧ ((kind : Int) == 2) = true ∧ decide ((level : Int) = 0) = false ∧ ((level : Int) == 0) = false ∧ decide ((rows.length : Int) = 0) = false ∧ ((rows.length : Int) == 0) = false ∧ ((kind : Int) != 2) = false ∧ ((kind : Int) != 1) = true ∧ (¬ rows.length = 0) ∧ ¬ rows = []) := by
    rcases hHd with ⟨h1, h2⟩ | ⟨h1, h2, h3⟩
    · have h1 : kind = 1 := h1
      have h2 : level = 0 := h2
      subst h1 h2
      exact .inl ⟨rfl, rfl, rfl, rfl, rfl, rfl, rfl⟩
    · have : 0 < rows.length := List.length_pos_iff.2 h3
      have h2 : level ≠ 0 := h2
      have h1 : kind = 2 := h1
      subst h1
      exact .inr ⟨rfl, rfl, rfl, rfl, by rw [decide_eq_false_iff_not]; omega, by rw [beq_eq_false_iff_ne]; omega, by rw [decide_eq_false_iff_not]; omega, by rw [beq_eq_false_iff_ne]; omega, rfl, rfl, by omega, h3⟩
  clear hHd
  go_enter Tryz.func44, Tryz.ntmps44
  have hg1 : w.heap.size < (w.alloc (.cells #[.int .u8 kind, .int .u8 level, .int .u32 pid, .int .u64 lsn, .int .u32 next, .slice A rows.length c] 51)).heap.size := hB1.lt
  rcases hx with ⟨d1, d2, d3, d4, d5, d6, d7⟩ | ⟨d1, d2, d3, d4, d5, d6, d7, d8, d9, d10, d11, d12⟩
  all_goals
    go_wp2_with fail
    clear d1 d2 d3 d4 d5 d6 d7
    generalize hw1 : World.alloc w _ = w1 at hb1 hB1 HR1 c0 c1 c5 hg1 ⊢
    obtain ⟨g1, hg⟩ : ∃ g, g = w.heap.size := ⟨_, rfl⟩
    rw [← hg] at hB1 c0 c1 c5 hg1 ⊢
    clear hw1 hg
    go_loopw [2, 45] (fun v i wr => ∃ (k : Nat) (u : Value), u = v ∧ k ≤ rows.length ∧ i = .int .i64 k ∧ wr.ownsRow w1.heap.size 9 1 u k (rcs (ks.take k)) ∧ Below w1.heap.size w1 wr) (fun _ i _ => rows.length - (intOf i).toNat)
    case atStart => exact ⟨0, _, rfl, by omega, rfl, by simpa [rcs] using World.ownsRow_nil _ _ _ _, Below.refl _ _⟩
    case round =>
      obtain ⟨k, v, rfl, hk, rfl, hO, hbr⟩ := hrel
      have hsr := hbr.size
      by_cases hlt : k < rows.length
      · have hltk : k < ks.length := by rw [← HLEN.out]; exact hlt
        obtain ⟨b, o, rfl, _, hb, hc⟩ := RowsAt.row HR1.out hlt
        have hcr := (hbr.cell (p := ⟨b, o + k, none⟩) hb).trans hc
        have c0r := (hbr.cell (p := ⟨g1, 0, none⟩) hg1).trans c0
        have HK := Lib.hid (node_keyOf repZ (hkey.out k hlt hltk) wr)
        have HRC := Lib.hid (rcs_take_succ ks k hltk)
        have HO := Lib.hid hO
        generalize rows[k] = r at *
        clear hc hO
        go_wp2_with fail
        refine HK.out.mono ?_
        rintro e w2 ⟨rfl, hb2⟩
        have HO2 : Hid (w2.ownsRow w1.heap.size 9 1 v k (rcs (ks.take k))) := Lib.hid (row_keep' HO.out (fun b hb => hb2.block b (HO.out.lt b hb).2))
        have hbr2 := hbr.trans (hb2.mono hsr)
        clear HK HO c0r hcr
        have fin : True := trivial
        rcases Nat.eq_zero_or_pos k with h0 | h0
        · subst h0
          go_wp2_with (at_builtin; refine wpList_append_own _ rfl _ _ 49 rfl w1.heap.size 9 i0 (.string ByteArray.empty) 1 16 Tryz.underlying49 hi hz0 hz1 hz2 rfl (by decide) _ _ _ rfl (HO2.out.alloc _) ⟨w2.heap.size, 0, none⟩ 1 1 [str ks[0]] rfl rfl (cell_one_new _ _ _) (fun x hx => by simp at hx; subst hx; rfl) (by unfold maxLen; omega) (by omega) (by simp; have := hbr2.size; omega) ?_)
          intro v' w3 hown hgrow hnil
          have HW := Lib.hid hown
          have hb3 := (hbr2.alloc hbr2.size (.cells #[str ks[0]] 9)).grown hgrow (by simp; have := hbr2.size; omega) (fun b hb => (HO2.out.lt b hb).1)
          go_wp2_with fail
          go_roundw
          case rel =>
            refine ⟨1, _, rfl, by omega, by go_num, ?_, hb3⟩
            rw [HRC.out]; exact HW.out
          case measure => simp [intOf]; omega
        · have HT : (ks.take k).length = k := by rw [List.length_take]; omega
          obtain ⟨A2, c2, hv, _, hR2⟩ := own_rows (rows := ks.take k) (by rw [HT]; exact HO2.out)
          obtain ⟨b2, o2, rfl, hg2, hb2l, hc2⟩ := RowsAt.row hR2 (k := k - 1) (by omega)
          rw [HT] at hv
          subst hv
          have hk1 : k - 1 < ks.length := by omega
          have ek : (ks.take k)[k - 1]'(by omega) = ks[k - 1] := by rw [List.getElem_take]
          rw [ek] at hc2
          have hlt3 := (Sp.cmp_neg _ _).2 (HRI.out.lt (i := k - 1) (j := k) (by omega) hltk)
          have d1 : decide (0 ≤ Lib.compareBytes ks[k - 1] ks[k]) = false := by rw [decide_eq_false_iff_not]; omega
          have HC := Lib.hid fun (W : World) => key_compare ks[k - 1] ks[k] W
          have d0 : decide ((0 : Int) < k) = true := by rw [decide_eq_true_eq]; omega
          have i1 : (0 : Int) ≤ (k : Int) - 1 := by omega
          have i2 : ((k : Int) - 1).toNat = k - 1 := by omega
          have i3 : (k : Int) - 1 < (k : Int) := by omega
          clear hR2 HT ek hlt3
          go_wp2_with fail
          refine (HC.out _).mono ?_
          rintro e w2' ⟨rfl, hw⟩
          subst w2'
          clear HC i1 i2 i3 d0 hc2
          go_wp2_with (at_builtin; refine wpList_append_own _ rfl _ _ 49 rfl w1.heap.size 9 i0 (.string ByteArray.empty) 1 16 Tryz.underlying49 hi hz0 hz1 hz2 rfl (by decide) _ _ _ rfl (HO2.out.alloc _) ⟨w2.heap.size, 0, none⟩ 1 1 [str ks[k]] rfl rfl (cell_one_new _ _ _) (fun x hx => by simp at hx; subst hx; rfl) (by unfold maxLen; omega) (by omega) (by simp; have := hbr2.size; omega) ?_)
          intro v' w3 hown hgrow hnil
          have HW := Lib.hid hown
          have hb3 := (hbr2.alloc hbr2.size (.cells #[str ks[k]] 9)).grown hgrow (by simp; have := hbr2.size; omega) (fun b hb => (HO2.out.lt b hb).1)
          go_wp2_with fail
          go_roundw
          case rel =>
            refine ⟨k + 1, _, rfl, by omega, by go_num, ?_, hb3⟩
            rw [HRC.out]; exact HW.out
          case measure => simp [intOf]; omega
      · obtain rfl : k = rows.length := by omega
        have hO1 : wr.ownsRow w1.heap.size 9 1 v ks.length (rcs ks) := by
          rw [HLEN.out, List.take_length] at hO
          exact hO
        obtain ⟨A2, c2, rfl, hA2, hR2⟩ := own_rows hO1
        clear hO hO1
        go_wp2_with fail
        go_ret2
        refine ⟨A2, c2, rfl, hA2, hR2.mono (fun b hb => Nat.le_trans hb1.size hb), hb1.trans (hbr.mono hb1.size)⟩
end Go.Proofs.YtafopojibpifoaaGreat

/- The walk of slices.BinarySearchFunc over strings that rise, by key.Compare. -/
namespace Go.Proofs.YtafopojibpifoaaGreat
open Go.RowKit

set_option maxRecDepth 100000 in
set_option maxHeartbeats 2000000 in
theorem bin_search {ks : List Sp.Bs} (hr : Sp.Rises ks) (k : Sp.Bs) {G : Foot} {w : World} {A : Option Addr} (c : Nat) (hR : RowsAt G w A ks) (hl : ks.length ≤ 1000000) :
    Calls Tryz.prog 49 #[.slice A ks.length c, str k, .func (.func 50) #[] #[]] w fun e w' => e = .returned (.tuple #[.int .i64 (Sp.findK ks k), .bool (Sp.isK ks k)]) ∧ w' = w := by
  have HR := Lib.hid hR
  have HRI := Lib.hid hr
  have HC := Lib.hid fun (a : Sp.Bs) (W : World) => key_compare a k W
  clear hR hr
  go_enter Tryz.func49, Tryz.ntmps49
  go_wp2_with fail
  go_loopw [9, 10] (fun i j wr => ∃ a b : Nat, a ≤ b ∧ b ≤ ks.length ∧ i = .int .i64 a ∧ j = .int .i64 b ∧ (∀ t (h : t < ks.length), t < a → ks[t] < k) ∧ (∀ t (h : t < ks.length), b ≤ t → ¬ ks[t] < k) ∧ wr = w) (fun i j _ => (intOf j).toNat - (intOf i).toNat)
  case atStart => exact ⟨0, ks.length, by omega, by omega, rfl, rfl, fun t h ht => by omega, fun t h ht => by omega, rfl⟩
  case round =>
    obtain ⟨a, b, hab, hb, rfl, rfl, hlo, hhi, rfl⟩ := hrel
    have HLO := Lib.hid hlo
    have HHI := Lib.hid hhi
    clear hlo hhi
    by_cases hlt : a < b
    · have hm1 : a ≤ (a + b) / 2 := by omega
      have hm2 : (a + b) / 2 < b := by omega
      have hml : (a + b) / 2 < ks.length := by omega
      obtain ⟨g, o, rfl, _, hg, hcell⟩ := RowsAt.row HR.out hml
      have HM := Lib.hid (show (((a + b) / 2 : Nat) : Int) = ((a : Int) + b) / 2 by omega)
      by_cases hk : ks[(a + b) / 2] < k
      · have d1 : decide (Lib.compareBytes ks[(a + b) / 2] k < 0) = true := decide_eq_true ((Sp.cmp_neg _ _).2 hk)
        go_wp2_with fail
        refine (HC.out _ _).mono ?_
        rintro e w2 ⟨rfl, hw⟩
        subst w2
        clear hcell
        go_wp2_with fail
        go_roundw
        case rel =>
          refine ⟨(a + b) / 2 + 1, b, by omega, hb, ?_, rfl, fun t h ht => ?_, HHI.out, trivial⟩
          · rw [← HM.out]; go_num
          · by_cases e : t = (a + b) / 2
            · subst e; exact hk
            · exact Sp.ltB_trans (HRI.out.lt (show t < (a + b) / 2 by omega) hml) hk
        case measure => simp [intOf]; omega
      · have d1 : decide (Lib.compareBytes ks[(a + b) / 2] k < 0) = false := decide_eq_false (fun h => hk ((Sp.cmp_neg _ _).1 h))
        go_wp2_with fail
        refine (HC.out _ _).mono ?_
        rintro e w2 ⟨rfl, hw⟩
        subst w2
        clear hcell
        go_wp2_with fail
        go_roundw
        case rel =>
          refine ⟨a, (a + b) / 2, by omega, by omega, rfl, ?_, HLO.out, fun t h ht hlt => ?_, trivial⟩
          · rw [← HM.out]
          · by_cases e : t = (a + b) / 2
            · subst e; exact hk hlt
            · exact hk (Sp.ltB_trans (HRI.out.lt (show (a + b) / 2 < t by omega) h) hlt)
        case measure => simp [intOf]; omega
    · obtain rfl : a = b := by omega
      have hf : Sp.findK ks k = a := Sp.findK_of (ks := ks) hb HLO.out HHI.out
      have HI := Lib.hid (Sp.isK_iff HRI.out (k := k))
      rw [hf] at HI
      have HF := Lib.hid hf
      clear hf
      by_cases hlt2 : a < ks.length
      · obtain ⟨g, o, rfl, _, hg, hcell⟩ := RowsAt.row HR.out hlt2
        go_wp2_with fail
        refine (HC.out _ _).mono ?_
        rintro e w2 ⟨rfl, hw⟩
        subst w2
        clear hcell
        by_cases hk : ks[a] = k
        · have d1 : decide (Lib.compareBytes ks[a] k = 0) = true := decide_eq_true ((Sp.cmp_zero _ _).2 hk)
          have d2 : (Lib.compareBytes ks[a] k == 0) = true := by rw [beq_iff_eq]; exact (Sp.cmp_zero _ _).2 hk
          have HKK := Lib.hid (HI.out.2 ⟨hlt2, hk⟩)
          clear hk
          go_wp2_with fail
          go_ret2
          exact ⟨by rw [HF.out, HKK.out]; rfl, rfl⟩
        · have d1 : decide (Lib.compareBytes ks[a] k = 0) = false := decide_eq_false (fun h => hk ((Sp.cmp_zero _ _).1 h))
          have d2 : (Lib.compareBytes ks[a] k == 0) = false := by rw [beq_eq_false_iff_ne]; exact fun h => hk ((Sp.cmp_zero _ _).1 h)
          have hno : Sp.isK ks k = false := by
            cases hx : Sp.isK ks k with
            | false => rfl
            | true => obtain ⟨h1, h2⟩ := HI.out.1 hx; exact absurd h2 hk
          go_wp2_with fail
          go_ret2
          exact ⟨by rw [HF.out, hno]; rfl, rfl⟩
      · have hno : Sp.isK ks k = false := by
          cases hx : Sp.isK ks k with
          | false => rfl
          | true => obtain ⟨h1, h2⟩ := HI.out.1 hx; exact absurd h1 hlt2
        go_wp2_with fail
        go_ret2
        exact ⟨by rw [HF.out, hno]; rfl, rfl⟩
end Go.Proofs.YtafopojibpifoaaGreat

/- The walks of package node: Check, Key. -/
namespace Go.Proofs.YtafopojibpifoaaGreat
open Go.RowKit

/-- A page that is no node, by its kind and level. -/
def Sp.NoNode (p : Sp.Pg) : Prop := (p.kind = 1 ∧ p.level ≠ 0) ∨ (p.kind ≠ 1 ∧ p.kind ≠ 2)
theorem page_cells {W : World} {g : Nat} {t : TypeId} {c0 c1 c2 c3 c4 c5 : Value} (h : Blk W g t #[c0, c1, c2, c3, c4, c5]) : W.cell? ⟨g, 0, none⟩ = some c0 ∧ W.cell? ⟨g, 1, none⟩ = some c1 ∧ W.cell? ⟨g, 2, none⟩ = some c2 ∧ W.cell? ⟨g, 3, none⟩ = some c3 ∧ W.cell? ⟨g, 4, none⟩ = some c4 ∧ W.cell? ⟨g, 5, none⟩ = some c5 :=
  ⟨h.cell 0, h.cell 1, h.cell 2, h.cell 3, h.cell 4, h.cell 5⟩
abbrev pgA (p : Sp.Pg) (A : Option Addr) (c : Nat) : Array Value := #[.int .u8 p.kind, .int .u8 p.level, .int .u32 p.id, .int .u64 p.lsn, .int .u32 p.next, .slice A p.rows.length c]

set_option maxRecDepth 100000 in
set_option maxHeartbeats 2000000 in
theorem node_keys_bad {p : Sp.Pg} (h : Sp.NoNode p) (w : World) (A : Option Addr) (c : Nat) :
    Calls Tryz.prog 44 #[pgV p A c] w fun e w' => e = .returned (.tuple #[.slice none 0 0, .bool false]) ∧ Below w.heap.size w w' := by
  have hb1 := (Below.refl w.heap.size w).alloc (Nat.le_refl _) (.cells (pgA p A c) 51)
  obtain ⟨kind, level, pid, lsn, next, rows⟩ := p
  unfold Sp.NoNode at h
  dsimp only at *
  have hx : (decide ((kind : Int) = 1) = true ∧ ((kind : Int) == 1) = true ∧ decide ((level : Int) = 0) = false ∧ ((level : Int) != 0) = true) ∨
      (decide ((kind : Int) = 1) = false ∧ ((kind : Int) == 1) = false ∧ decide ((kind : Int) = 2) = false ∧ ((kind : Int) == 2) = false ∧ ((kind : Int) != 2) = true ∧ ((kind : Int) != 1) = true) := by
    rcases h with ⟨rfl, h2⟩ | ⟨h1, h2⟩
    · exact .inl ⟨rfl, rfl, by rw [decide_eq_false_iff_not]; omega, by simp; omega⟩
    · exact .inr ⟨by rw [decide_eq_false_iff_not]; omega, by rw [beq_eq_false_iff_ne]; omega, by rw [decide_eq_false_iff_not]; omega, by rw [beq_eq_false_iff_ne]; omega, by simp; omega, by simp; omega⟩
  clear h
  go_enter Tryz.func44, Tryz.ntmps44
  rcases hx with ⟨d1, d2, d3, d4⟩ | ⟨d1, d2, d3, d4, d5, d6⟩
  · go_wp2_with fail
    go_ret2
    exact ⟨rfl, hb1⟩
  · go_wp2_with fail
    go_ret2
    exact ⟨rfl, hb1⟩

set_option maxRecDepth 100000 in
set_option maxHeartbeats 2000000 in
theorem node_check {p : Sp.Pg} {ks : List Sp.Bs} (h : Sp.NodePg p ks) (hm : p.may) {G : Foot} {w : World} {A : Option Addr} {c : Nat} (hR : RowsAt G w A p.rows) :
    Calls Tryz.prog 28 #[pgV p A c] w fun e w' => e = .returned (.int .i64 0) ∧ Below w.heap.size w w' := by
  have hmay := (mayB_iff p).2 hm
  have hroom := hm.2.2.2.2
  have hb1 := (Below.refl w.heap.size w).alloc (Nat.le_refl _) (.cells (pgA p A c) 51)
  have hB1 := Blk.new w 51 (pgA p A c)
  have hR1 := Reads.below hR hb1
  have HK := Lib.hid (node_keys (c := c) h hR1 (by omega))
  have HR1 := Lib.hid hR1
  have HM := Lib.hid fun (W : World) (hRW : RowsAt G W A p.rows) => page_may (c := c) hRW (by omega) (by omega)
  rw [hmay] at HM
  obtain ⟨c0, c1, c2, c3, c4, c5⟩ := page_cells hB1
  clear hR hR1 h hm hmay
  go_enter Tryz.func28, Tryz.ntmps28
  go_wp2_with fail
  refine HK.out.mono ?_
  rintro e w2 ⟨A2, a2, rfl, _, _, hb2⟩
  have hbw2 := hb1.trans (hb2.mono hb1.size)
  have hR2 := Reads.below HR1.out hb2
  obtain ⟨c0, c1, c2, c3, c4, c5⟩ := page_cells (hB1.below hb2 hB1.lt)
  have HM2 := Lib.hid (HM.out _ hR2)
  clear HK HM hR2 hb2 hB1
  go_wp2_with fail
  refine HM2.out.mono ?_
  rintro e w3 ⟨rfl, hb3⟩
  have hbw3 := hbw2.trans (hb3.mono hbw2.size)
  clear c0 c1 c2 c3 c4 c5
  go_wp2_with fail
  go_ret
  exact ⟨rfl, hbw3⟩
set_option maxRecDepth 100000 in
theorem node_check_bad {p : Sp.Pg} (h : Sp.NoNode p) (w : World) (A : Option Addr) (c : Nat) :
    Calls Tryz.prog 28 #[pgV p A c] w fun e w' => e = .returned (.int .i64 7) ∧ Below w.heap.size w w' := by
  have hb1 := (Below.refl w.heap.size w).alloc (Nat.le_refl _) (.cells (pgA p A c) 51)
  have hB1 := Blk.new w 51 (pgA p A c)
  have HK := Lib.hid fun (W : World) => node_keys_bad h W A c
  obtain ⟨c0, c1, c2, c3, c4, c5⟩ := page_cells hB1
  clear h
  go_enter Tryz.func28, Tryz.ntmps28
  go_wp2_with fail
  refine (HK.out _).mono ?_
  rintro e w2 ⟨rfl, hb2⟩
  have hbw2 := hb1.trans (hb2.mono hb1.size)
  clear c0 c1 c2 c3 c4 c5 hB1 hb2 HK
  go_wp2_with fail
  go_ret
  exact ⟨rfl, hbw2⟩

set_option maxRecDepth 100000 in
set_option maxHeartbeats 2000000 in
theorem node_key {p : Sp.Pg} {ks : List Sp.Bs} (h : Sp.NodePg p ks) (hm : p.may) {G : Foot} {w : World} {A : Option Addr} {c : Nat} (hR : RowsAt G w A p.rows) {i : Nat} (hi : i < ks.length) :
    Calls Tryz.prog 29 #[pgV p A c, .int .i64 i] w fun e w' => e = .returned (.tuple #[str ks[i], .int .i64 0]) ∧ Below w.heap.size w w' := by
  have hroom := hm.2.2.2.2
  have hip : i < p.rows.length := by rw [h.len]; exact hi
  have hb1 := (Below.refl w.heap.size w).alloc (Nat.le_refl _) (.cells (pgA p A c) 51)
  have hB1 := Blk.new w 51 (pgA p A c)
  have hR1 := Reads.below hR hb1
  have HC := Lib.hid (node_check (c := c) h hm hR1)
  have HK := Lib.hid fun (W : World) => node_keyOf repZ (h.key hip hi) W
  have HR1 := Lib.hid hR1
  obtain ⟨c0, c1, c2, c3, c4, c5⟩ := page_cells hB1
  have d1 : decide ((i : Int) < 0) = false := by rw [decide_eq_false_iff_not]; omega
  have d2 : decide ((p.rows.length : Int) ≤ i) = false := by rw [decide_eq_false_iff_not]; omega
  clear hR hR1 h hm
  go_enter Tryz.func29, Tryz.ntmps29
  go_wp2_with fail
  refine HC.out.mono ?_
  rintro e w2 ⟨rfl, hb2⟩
  have hbw2 := hb1.trans (hb2.mono hb1.size)
  have hR2 := Reads.below HR1.out hb2
  have hB2 := hB1.below hb2 hB1.lt
  obtain ⟨b, o, hA, _, hbl, hcell⟩ := RowsAt.row hR2 hip
  subst hA
  obtain ⟨c0, c1, c2, c3, c4, c5⟩ := page_cells hB2
  clear HC hR2 hb2 hB1 HR1
  go_wp2_with fail
  have hS := Lib.hid (show w2.drew.cell? ⟨w.heap.size, 0, none⟩ = some (.int .u8 p.kind) ∧ w2.drew.cell? ⟨w.heap.size, 5, none⟩ = some (.slice (some ⟨b, o, none⟩) p.rows.length c) ∧ w2.drew.cell? ⟨b, o + i, none⟩ = some (str p.rows[i]) from ⟨c0, c5, hcell⟩)
  clear c0 c1 c2 c3 c4 c5 hcell
  refine R_begin (fun W => W.cell? ⟨w.heap.size, 0, none⟩ = some (.int .u8 p.kind) ∧ W.cell? ⟨w.heap.size, 5, none⟩ = some (.slice (some ⟨b, o, none⟩) p.rows.length c) ∧ W.cell? ⟨b, o + i, none⟩ = some (str p.rows[i])) (fun _ => false) rfl ?_
  refine R_tk 0 20 hS.out ?_
  refine R_tk 1 21 hS.out ?_
  refine R_tk 2 22 hS.out ?_
  refine R_tk 3 23 hS.out ?_
  refine R_tk 4 24 hS.out ?_
  refine R_tk 5 25 hS.out ?_
  refine R_tk 6 26 hS.out ?_
  simp only [List.setIfInBounds_toArray, List.set_cons_zero, List.set_cons_succ]
  refine R_call 7 27 (w' := w2.drew) rfl rfl (by rfl) (by kernel_rfl) ?_ (HK.out _) ?_
  · go_simp
  rintro e w3 ⟨rfl, hb3⟩
  have hS3 := Lib.hid (show w3.cell? ⟨w.heap.size, 0, none⟩ = some (.int .u8 p.kind) ∧ w3.cell? ⟨w.heap.size, 5, none⟩ = some (.slice (some ⟨b, o, none⟩) p.rows.length c) ∧ w3.cell? ⟨b, o + i, none⟩ = some (str p.rows[i]) from
    ⟨(hb3.cell (p := ⟨w.heap.size, 0, none⟩) hB2.lt).trans hS.out.1, (hb3.cell (p := ⟨w.heap.size, 5, none⟩) hB2.lt).trans hS.out.2.1, (hb3.cell (p := ⟨b, o + i, none⟩) hbl).trans hS.out.2.2⟩)
  refine ⟨_, rfl, fun _ => hS3.out, ?_⟩
  refine R_tk 8 28 hS3.out ?_
  refine R_tk 9 29 hS3.out ?_
  refine R_tk 10 4 hS3.out ?_
  refine R_tk 11 5 hS3.out ?_
  simp only [List.setIfInBounds_toArray, List.set_cons_zero, List.set_cons_succ]
  refine R_done (by kernel_rfl) ?_ _
  rename_i K9 hK9
  refine hK9 _ _ ?_
  clear hK9
  have hbw3 : Below w.heap.size w w3 := hbw2.trans ((show Below w2.heap.size w2 w3 from ⟨hb3.os, hb3.tape, hb3.output, hb3.size, hb3.block⟩).mono hbw2.size)
  go_wp2_with fail
  go_ret2
  exact ⟨rfl, hbw3⟩

set_option maxRecDepth 100000 in
set_option maxHeartbeats 2000000 in
theorem node_find {p : Sp.Pg} {ks : List Sp.Bs} (h : Sp.NodePg p ks) (hm : p.may) {G : Foot} {w : World} {A : Option Addr} {c : Nat} (hR : RowsAt G w A p.rows) (k : Sp.Bs) :
    Calls Tryz.prog 32 #[pgV p A c, str k] w fun e w' => e = .returned (.tuple #[.int .i64 (Sp.findK ks k), .bool (Sp.isK ks k)]) ∧ Below w.heap.size w w' := by
  have hroom := hm.2.2.2.2
  have hle : ks.length ≤ 1000000 := by rw [← h.len]; omega
  have hrise := h.1
  have hb1 := (Below.refl w.heap.size w).alloc (Nat.le_refl _) (.cells (pgA p A c) 51)
  have hB1 := Blk.new w 51 (pgA p A c)
  have hR1 := Reads.below hR hb1
  have HC := Lib.hid (node_check (c := c) h hm hR1)
  have HK := Lib.hid fun (W : World) (hRW : RowsAt G W A p.rows) => node_keys (c := c) h hRW (by omega)
  have HBS := Lib.hid fun (A : Option Addr) (c : Nat) (W : World) (b : Nat) (hRW : RowsAt (fun x => b ≤ x) W A ks) => bin_search hrise k c hRW hle
  have HR1 := Lib.hid hR1
  obtain ⟨c0, c1, c2, c3, c4, c5⟩ := page_cells hB1
  clear hR hR1 h hm hrise
  go_enter Tryz.func32, Tryz.ntmps32
  go_wp2_with fail
  refine HC.out.mono ?_
  rintro e w2 ⟨rfl, hb2⟩
  have hbw2 := hb1.trans (hb2.mono hb1.size)
  have hR2 := Reads.below HR1.out hb2
  have hB2 := hB1.below hb2 hB1.lt
  obtain ⟨c0, c1, c2, c3, c4, c5⟩ := page_cells hB2
  have HK2 := Lib.hid (HK.out _ hR2)
  clear HC hR2 hb2 hB1 HR1 HK
  go_wp2_with fail
  refine HK2.out.mono ?_
  rintro e w3 ⟨A3, a3, rfl, _, hR3, hb3⟩
  have hbw3 := hbw2.trans (hb3.mono hbw2.size)
  have HB3 := Lib.hid (HBS.out A3 a3 _ _ hR3)
  clear c0 c1 c2 c3 c4 c5 hb3 HK2 HBS hR3
  go_wp2_with fail
  refine HB3.out.mono ?_
  rintro e w4 ⟨rfl, hw⟩
  subst w4
  go_wp2_with fail
  go_ret2
  exact ⟨rfl, hbw3⟩

set_option maxRecDepth 100000 in
set_option maxHeartbeats 2000000 in
/-- Which child a key leads to. -/
theorem node_child {p : Sp.Pg} {es : List Sp.En} (h : Sp.InnerPg p es) (hr : Sp.Rises (es.map (·.key))) (hm : p.may) {G : Foot} {w : World} {A : Option Addr} {c : Nat} (hR : RowsAt G w A p.rows) (k : Sp.Bs) {e : Sp.En} (he : es[Sp.childK (es.map (·.key)) k]? = some e) :
    Calls Tryz.prog 34 #[pgV p A c, str k] w fun x w' => x = .returned (.tuple #[.int .u32 e.child, .int .i64 (Sp.childK (es.map (·.key)) k), .int .i64 0]) ∧ Below w.heap.size w w' := by
  have hroom := hm.2.2.2.2
  have hN : Sp.NodePg p (es.map (·.key)) := ⟨hr, .inr ⟨es, h, rfl⟩⟩
  have hkind := h.1
  have hemay := h.2.2.2.2 e (List.mem_of_getElem? he)
  have hlt : Sp.childK (es.map (·.key)) k < p.rows.length := by
    rw [hN.len, List.length_map]; exact (List.getElem?_eq_some_iff.1 he).1
  have hrow : p.rows[Sp.childK (es.map (·.key)) k]? = some e.bytes := by
    have e1 := h.2.2.2.1
    rw [e1, List.getElem?_map, he]; rfl
  have hb1 := (Below.refl w.heap.size w).alloc (Nat.le_refl _) (.cells (pgA p A c) 51)
  have hB1 := Blk.new w 51 (pgA p A c)
  have hR1 := Reads.below hR hb1
  have HC := Lib.hid (node_check (c := c) hN hm hR1)
  have HF := Lib.hid fun (W : World) (hRW : RowsAt G W A p.rows) => node_find (c := c) hN hm hRW k
  have HD := Lib.hid fun (W : World) => row_decodeEntry e hemay W
  have HR1 := Lib.hid hR1
  obtain ⟨c0, c1, c2, c3, c4, c5⟩ := page_cells hB1
  have d1 : decide ((p.kind : Int) = 2) = true := by rw [decide_eq_true_eq]; omega
  have d2 : ((p.kind : Int) != 2) = false := by simp [hkind]
  have hfle := Sp.findK_le (es.map (·.key)) k
  clear hR hR1 h hm hr hN he hkind
  obtain ⟨at_, hat⟩ : ∃ a, a = Sp.childK (es.map (·.key)) k := ⟨_, rfl⟩
  simp only [← hat] at hlt hrow ⊢
  have HAT := Lib.hid hat
  have HROW := Lib.hid (show p.rows[at_] = e.bytes by rw [List.getElem?_eq_getElem hlt] at hrow; injection hrow)
  clear hat hrow
  go_enter Tryz.func34, Tryz.ntmps34
  go_wp2_with fail
  refine HC.out.mono ?_
  rintro x w2 ⟨rfl, hb2⟩
  have hbw2 := hb1.trans (hb2.mono hb1.size)
  have hR2 := Reads.below HR1.out hb2
  have hB2 := hB1.below hb2 hB1.lt
  obtain ⟨c0, c1, c2, c3, c4, c5⟩ := page_cells hB2
  have HF2 := Lib.hid (HF.out _ hR2)
  have HR2 := Lib.hid hR2
  clear HC hR2 hb2 hB1 HR1 HF
  go_wp2_with fail
  refine HF2.out.mono ?_
  rintro x w3 ⟨rfl, hb3⟩
  have hbw3 := hbw2.trans (hb3.mono hbw2.size)
  have hR3 := Reads.below HR2.out hb3
  have hB3 := hB2.below hb3 hB2.lt
  obtain ⟨c0, c1, c2, c3, c4, c5⟩ := page_cells hB3
  obtain ⟨b, o, hA, _, hbl, hcell⟩ := RowsAt.row hR3 hlt
  rw [HROW.out] at hcell
  subst hA
  clear HF2 HR2 hR3 hB2 hb3
  cases hk : Sp.isK (es.map (·.key)) k with
  | true =>
    have e1 : Sp.findK (es.map (·.key)) k = at_ := by rw [HAT.out]; unfold Sp.childK; rw [hk]; rfl
    rw [e1]
    clear e1 hk
    go_wp2_with fail
    refine (HD.out _).mono ?_
    rintro x w4 ⟨rfl, hb4⟩
    have hbw4 := (hbw3.trans (hb4.mono hbw3.size)).alloc (hbw3.trans (hb4.mono hbw3.size)).size (.cells (enCs e).toArray 66)
    clear c0 c1 c2 c3 c4 c5 hcell hB3 HD hb4
    go_wp2_with fail
    go_ret3
    exact ⟨rfl, hbw4⟩
  | false =>
    have e1 : max ((Sp.findK (es.map (·.key)) k : Int) - 1) 0 = at_ := by rw [HAT.out]; unfold Sp.childK; rw [hk]; simp; omega
    clear hk
    generalize Sp.findK (es.map (·.key)) k = f at *
    go_wp2_with fail
    clear e1
    refine (HD.out _).mono ?_
    rintro x w4 ⟨rfl, hb4⟩
    have hbw4 := (hbw3.trans (hb4.mono hbw3.size)).alloc (hbw3.trans (hb4.mono hbw3.size)).size (.cells (enCs e).toArray 66)
    clear c0 c1 c2 c3 c4 c5 hcell hB3 HD hb4
    go_wp2_with fail
    go_ret3
    exact ⟨rfl, hbw4⟩
end Go.Proofs.YtafopojibpifoaaGreat

/- append of one element to an owned row. No program is named here. -/
namespace Go.Proofs.YtafopojibpifoaaGreat
open Go.RowKit

theorem grownBy_trans' {w w' w'' : World} {row : Option Nat} (h : w.grownBy w' row) (h' : w'.grownBy w'' row) : w.grownBy w'' row :=
  ⟨h'.os.trans h.os, h'.tape.trans h.tape, h'.output.trans h.output, Nat.le_trans h.size h'.size, fun b hb hne => (h'.block b (Nat.lt_of_lt_of_le hb h.size) hne).trans (h.block b hb hne)⟩

theorem wpList_app1 {P : Program} {w : World} {ops : Array Oper} {rest : List Oper} {o : Oper} {a : Act} {Q : Exit → Act → World → Prop} (hgd : o.guard = none) (s x : Operand) (t : TypeId)
    (ho : o.op = .call { callee := .builtin .append, args := #[s, x], argTypes := #[t, t] })
    (base : Nat) (e : TypeId) (i : TypeInfo) (z : Value) (bytes : Nat) (ht : P.underlying t = some (.slice e)) (hi : P.info? e = some i) (hz : i.zero = some z)
    (hsize : i.size = 1) (hby : i.bytes = bytes) (hzs : z.cells.size = 1)
    (v : Value) (n : Nat) (xs : List Value) (hs : a.eval s = v) (hown : w.ownsRow base e 1 v n xs)
    (y : Value) (hx : a.eval x = .slice (some ⟨w.heap.size, 0, none⟩) 1 1) (hy : y.oneCell' = true)
    (h63 : n + 1 ≤ maxLen) (hbytes : (n + 1) * bytes ≤ 140737488355328) (hbase : base ≤ w.heap.size)
    (h : ∀ v' w', w'.ownsRow base e 1 v' (n + 1) (xs ++ [y]) → w.grownBy w' v.ownBlock → (∀ k, v'.ownBlock = some k → v.ownBlock = some k ∨ w.heap.size ≤ k) → wpList P ops Q rest (a.put o.dst v') w') : wpList P ops Q (o :: rest) a (w.alloc (.cells #[y] e)) := by
  refine wpList_append_own2 _ hgd s x t ho base e i z 1 bytes ht hi hz hsize hby hzs (by omega) v n xs hs (hown.alloc _) ⟨w.heap.size, 0, none⟩ 1 1 [y] hx rfl ?_ (fun u hu => by rw [List.mem_singleton.1 hu]; exact hy) h63 hbytes (by simp; omega) fun v' w' h1 h2 h3 => h v' w' h1 (grownBy_trans' (World.grownBy_alloc w _ _) h2) fun k hk => ?_
  · exact blk_news (cs := [y]) (Blk.new w e #[y])
  · rcases h3 k hk with h3 | h3
    · exact .inl h3
    · simp at h3; exact .inr (by omega)
end Go.Proofs.YtafopojibpifoaaGreat

/- The walks of rows as bytes: pentimentoref07.Encode, at any pad. -/
namespace Go.Proofs.YtafopojibpifoaaGreat
open Go.RowKit

theorem rw_cellsP {r : Sp.Rw} {g : Nat} {t : TypeId} {W : World} (h : Blk W g t (rwCs r).toArray) :
    W.cell? ⟨g, 0, none⟩ = some (str r.key) ∧ W.cell? ⟨g, 2, none⟩ = some (.int .u64 r.tx) ∧ W.cell? ⟨g, 3, none⟩ = some (.int .u32 r.page) ∧ W.cell? ⟨g, 4, none⟩ = some (.int .u16 r.slot) ∧ W.cell? ⟨g, 5, none⟩ = some (str r.value) ∧ W.cell? ⟨g, 6, none⟩ = some (.int .i64 r.pad) :=
  ⟨h.cell 0, h.cell 2, h.cell 3, h.cell 4, h.cell 5, h.cell 6⟩

theorem makeP (n : Nat) (h : n ≤ 96) (W : World) : (Instr.makeSlice 102 (.int .i64 n) (.int .i64 n)).run Tryz.prog W = .ok (.slice (some ⟨W.heap.size, 0, none⟩) n n) (W.alloc (.cells (Array.replicate n (Value.int .u8 0)) 5)) := by
  obtain ⟨i0, hi, hz0, hz1, hz2⟩ := info_parts area_info
  have := run_make_rowN (P := Tryz.prog) 102 5 i0 (.int .u8 0) Tryz.underlying102 hi hz0 .i64 .i64 n n (Nat.le_refl _) (by rw [hz2]; omega) (by omega) W
  rw [hz1, Nat.mul_one, show (Value.int IntKind.u8 0).cells = #[Value.int .u8 0] from rfl, madeCells_one, List.toArray_replicate] at this
  exact this
theorem convP (n : Nat) (W : World) : (convert 102 9 (.slice (some ⟨W.heap.size, 0, none⟩) n n)).run Tryz.prog (W.alloc (.cells (Array.replicate n (Value.int .u8 0)) 5)) = .ok (str (Sp.zeros n)) (W.alloc (.cells (Array.replicate n (Value.int .u8 0)) 5)) :=
  run_bytes_back _ 102 9 5 W.heap.size 0 n n (Sp.zeros n) Tryz.underlying102 Tryz.underlying5 Tryz.underlying9 (Sp.zeros_length n).symm (fun j hj => by
    rw [Nat.zero_add]
    have hj' : j < n := by rw [Sp.zeros_length] at hj; exact hj
    have e := (Blk.new W 5 (Array.replicate n (Value.int .u8 0))).cell j
    rw [e]
    simp [Sp.zeros, hj'])

set_option maxRecDepth 100000 in
set_option maxHeartbeats 4000000 in
theorem ref07_encodeP (r : Sp.Rw) (h : r.may) (hwf : r.wf) (w : World) : Calls Tryz.prog 19 #[rwV r] w fun e w' => e = .returned (.tuple #[str r.bytes, .int .i64 0]) ∧ Below w.heap.size w w' := by
  have HM := Lib.hid fun (W : World) => ref07_may r h W
  obtain ⟨h1, h2, h3, h4, h5⟩ := h
  have hkl : r.key.length < 256 := by omega
  have hvl : r.value.length < 256 := by omega
  have hsl := hwf.2
  have htx := hwf.1
  have cc1 : ¬ 9223372036854775807 < 16 + r.key.length := by omega
  have cc2 : ¬ 9223372036854775807 < 16 + r.key.length + 1 := by omega
  have cc3 : ¬ 9223372036854775807 < 16 + r.key.length + 1 + r.value.length := by omega
  have cc4 : ¬ 9223372036854775807 < 16 + r.key.length + 1 + r.value.length + (Sp.zeros r.pad).length := by rw [Sp.zeros_length]; omega
  have wr1 : IntKind.u64.wrap (r.page : Int) = r.page := by rw [IntKind.wrap_u64]; omega
  have wr2 : IntKind.u64.wrap (r.slot : Int) = r.slot := by rw [IntKind.wrap_u64]; omega
  have wr3 : IntKind.u64.wrap (r.key.length : Int) = r.key.length := by rw [IntKind.wrap_u64]; omega
  have wr4 : IntKind.u64.wrap (r.value.length : Int) = r.value.length := by rw [IntKind.wrap_u64]; omega
  have HP0 := Lib.hid (show r.pad ≤ 96 by omega)
  go_enter Tryz.func19, Tryz.ntmps19
  go_wp2_with fail
  refine (HM.out _).mono ?_
  rintro e w1 ⟨rfl, hb1⟩
  have hB0 := (Blk.new w 43 (rwCs r).toArray)
  have hB1 := hB0.below hb1 hB0.lt
  have hb0 : Below w.heap.size w w1 := ((Below.refl w.heap.size w).alloc (Nat.le_refl _) (.cells (rwCs r).toArray 43)).trans (hb1.mono (by simp))
  obtain ⟨g, hg⟩ : ∃ g, g = w.heap.size := ⟨_, rfl⟩
  rw [← hg] at hB1 ⊢
  have HB := Lib.hid hB1
  have m0 := hB1.cell 1
  simp only [List.getElem?_toArray, List.getElem?_cons_succ, List.getElem?_cons_zero] at m0
  clear hg hB0 hB1 HM hb1
  cases hm : r.mark with
  | false =>
    rw [hm] at m0
    have HMN : Hid (r.markN = 0) := Lib.hid (by unfold Sp.Rw.markN; rw [hm]; rfl)
    clear hm
    go_wp2_with fail
    have hS0 := Lib.hid (rw_cellsP HB.out.drew)
    clear m0
    refine R_begin (fun W => W.cell? ⟨g, 0, none⟩ = some (str r.key) ∧ W.cell? ⟨g, 2, none⟩ = some (.int .u64 r.tx) ∧ W.cell? ⟨g, 3, none⟩ = some (.int .u32 r.page) ∧ W.cell? ⟨g, 4, none⟩ = some (.int .u16 r.slot) ∧ W.cell? ⟨g, 5, none⟩ = some (str r.value) ∧ W.cell? ⟨g, 6, none⟩ = some (.int .i64 r.pad)) (fun _ => false) rfl ?_
    refine R_take 0 11 (v := ?_) rfl rfl (by rfl) (by kernel_rfl) (fun _ _ _ h => h) hS0.out ?_ ?_
    rotate_left
    · intro w hSw; (try dsimp only at hSw); go_simp; (try with_reducible rfl)
    simp only [List.setIfInBounds_toArray, List.set_cons_zero, List.set_cons_succ]
    refine R_take 2 13 (v := ?_) rfl rfl (by rfl) (by kernel_rfl) (fun _ _ _ h => h) hS0.out ?_ ?_
    rotate_left
    · intro w hSw; (try dsimp only at hSw); go_simp; (try with_reducible rfl)
    simp only [List.setIfInBounds_toArray, List.set_cons_zero, List.set_cons_succ]
    refine R_take 3 14 (v := ?_) rfl rfl (by rfl) (by kernel_rfl) (fun _ _ _ h => h) hS0.out ?_ ?_
    rotate_left
    · intro w hSw; (try dsimp only at hSw); go_simp; (try with_reducible rfl)
    simp only [List.setIfInBounds_toArray, List.set_cons_zero, List.set_cons_succ]
    refine R_take 6 17 (v := ?_) rfl rfl (by rfl) (by kernel_rfl) (fun _ _ _ h => h) hS0.out ?_ ?_
    rotate_left
    · intro w hSw; (try dsimp only at hSw); go_simp; (try with_reducible rfl)
    simp only [List.setIfInBounds_toArray, List.set_cons_zero, List.set_cons_succ]
    refine R_take 7 18 (v := ?_) rfl rfl (by rfl) (by kernel_rfl) (fun _ _ _ h => h) hS0.out ?_ ?_
    rotate_left
    · intro w hSw; (try dsimp only at hSw); go_simp; (try with_reducible rfl)
    simp only [List.setIfInBounds_toArray, List.set_cons_zero, List.set_cons_succ]
    refine R_take 8 19 (v := ?_) rfl rfl (by rfl) (by kernel_rfl) (fun _ _ _ h => h) hS0.out ?_ ?_
    rotate_left
    · intro w hSw; (try dsimp only at hSw); go_simp; (try with_reducible rfl)
    simp only [List.setIfInBounds_toArray, List.set_cons_zero, List.set_cons_succ]
    refine R_take 9 20 (v := ?_) rfl rfl (by rfl) (by kernel_rfl) (fun _ _ _ h => h) hS0.out ?_ ?_
    rotate_left
    · intro w hSw; (try dsimp only at hSw); go_simp; (try with_reducible rfl)
    simp only [List.setIfInBounds_toArray, List.set_cons_zero, List.set_cons_succ]
    refine R_take 12 23 (v := ?_) rfl rfl (by rfl) (by kernel_rfl) (fun _ _ _ h => h) hS0.out ?_ ?_
    rotate_left
    · intro w hSw; (try dsimp only at hSw); go_simp; (try with_reducible rfl)
    simp only [List.setIfInBounds_toArray, List.set_cons_zero, List.set_cons_succ]
    refine R_take 13 24 (v := ?_) rfl rfl (by rfl) (by kernel_rfl) (fun _ _ _ h => h) hS0.out ?_ ?_
    rotate_left
    · intro w hSw; (try dsimp only at hSw); go_simp; (try with_reducible rfl)
    simp only [List.setIfInBounds_toArray, List.set_cons_zero, List.set_cons_succ]
    refine R_take 14 25 (v := ?_) rfl rfl (by rfl) (by kernel_rfl) (fun _ _ _ h => h) hS0.out ?_ ?_
    rotate_left
    · intro w hSw; (try dsimp only at hSw); go_simp; (try with_reducible rfl)
    simp only [List.setIfInBounds_toArray, List.set_cons_zero, List.set_cons_succ]
    refine R_take 15 26 (v := ?_) rfl rfl (by rfl) (by kernel_rfl) (fun _ _ _ h => h) hS0.out ?_ ?_
    rotate_left
    · intro w hSw; (try dsimp only at hSw); go_simp; (try with_reducible rfl)
    simp only [List.setIfInBounds_toArray, List.set_cons_zero, List.set_cons_succ]
    refine R_call 1 12 (w' := w1.drew) rfl rfl (by rfl) (by kernel_rfl) ?_ (ref07_num 0 1 w1.drew (by omega) (by omega) (by omega) (by omega)) ?_
    · go_simp
    rintro e v1 ⟨rfl, hbv1⟩
    have hBv1 : Below w1.heap.size w1 v1 := ⟨hbv1.os, hbv1.tape, hbv1.output, hbv1.size, hbv1.block⟩
    have hsv1 := rw_cellsP (HB.out.below hBv1 HB.out.lt)
    refine ⟨_, rfl, fun _ => hsv1, ?_⟩
    simp only [List.setIfInBounds_toArray, List.set_cons_zero, List.set_cons_succ]
    have hS1 := Lib.hid hsv1
    clear hsv1 hbv1
    refine R_call 4 15 (w' := v1) rfl rfl (by rfl) (by kernel_rfl) ?_ (ref07_num r.tx 8 v1 (by omega) (by omega) hwf.1 hwf.1) ?_
    · go_simp
    rintro e v2 ⟨rfl, hbv2⟩
    have hBv2 : Below w1.heap.size w1 v2 := hBv1.trans (hbv2.mono hBv1.size)
    have hsv2 := rw_cellsP (HB.out.below hBv2 HB.out.lt)
    refine ⟨_, rfl, fun _ => hsv2, ?_⟩
    simp only [List.setIfInBounds_toArray, List.set_cons_zero, List.set_cons_succ]
    have hS2 := Lib.hid hsv2
    clear hsv2 hbv2 hBv1
    refine R_take 5 16 (v := ?_) rfl rfl (by rfl) (by kernel_rfl) (fun _ _ _ h => h) hS2.out ?_ ?_
    rotate_left
    · intro w hSw; (try dsimp only at hSw); go_simp; (try with_reducible rfl)
    simp only [List.setIfInBounds_toArray, List.set_cons_zero, List.set_cons_succ]
    refine R_call 10 21 (w' := v2) rfl rfl (by rfl) (by kernel_rfl) ?_ (ref07_num r.page 4 v2 (by omega) (by omega) (by omega) (by omega)) ?_
    · go_simp
    rintro e v3 ⟨rfl, hbv3⟩
    have hBv3 : Below w1.heap.size w1 v3 := hBv2.trans (hbv3.mono hBv2.size)
    have hsv3 := rw_cellsP (HB.out.below hBv3 HB.out.lt)
    refine ⟨_, rfl, fun _ => hsv3, ?_⟩
    simp only [List.setIfInBounds_toArray, List.set_cons_zero, List.set_cons_succ]
    have hS3 := Lib.hid hsv3
    clear hsv3 hbv3 hBv2
    refine R_take 11 22 (v := ?_) rfl rfl (by rfl) (by kernel_rfl) (fun _ _ _ h => h) hS3.out ?_ ?_
    rotate_left
    · intro w hSw; (try dsimp only at hSw); go_simp; (try with_reducible rfl)
    simp only [List.setIfInBounds_toArray, List.set_cons_zero, List.set_cons_succ]
    refine R_call 16 27 (w' := v3) rfl rfl (by rfl) (by kernel_rfl) ?_ (ref07_num r.slot 2 v3 (by omega) (by omega) hwf.2 (by omega)) ?_
    · go_simp
    rintro e v4 ⟨rfl, hbv4⟩
    have hBv4 : Below w1.heap.size w1 v4 := hBv3.trans (hbv4.mono hBv3.size)
    have hsv4 := rw_cellsP (HB.out.below hBv4 HB.out.lt)
    refine ⟨_, rfl, fun _ => hsv4, ?_⟩
    simp only [List.setIfInBounds_toArray, List.set_cons_zero, List.set_cons_succ]
    have hS4 := Lib.hid hsv4
    clear hsv4 hbv4 hBv3
    refine R_take 17 28 (v := ?_) rfl rfl (by rfl) (by kernel_rfl) (fun _ _ _ h => h) hS4.out ?_ ?_
    rotate_left
    · intro w hSw; (try dsimp only at hSw); go_simp; (try with_reducible rfl)
    simp only [List.setIfInBounds_toArray, List.set_cons_zero, List.set_cons_succ]
    refine R_take 18 5 (v := ?_) rfl rfl (by rfl) (by kernel_rfl) (fun _ _ _ h => h) hS4.out ?_ ?_
    rotate_left
    · intro w hSw; (try dsimp only at hSw); go_simp; (try with_reducible rfl)
    simp only [List.setIfInBounds_toArray, List.set_cons_zero, List.set_cons_succ]
    refine R_done (by kernel_rfl) ?_ _
    rename_i K9 hK9
    refine hK9 _ _ ?_
    clear hK9
    have HB2 := Lib.hid (HB.out.below hBv4 HB.out.lt)
    have hb2 := hb0.trans (hBv4.mono hb0.size)
    clear hS0 hS1 hS2 hS3 hS4 HB hBv4
    obtain ⟨w2, hw2⟩ : ∃ w2, w2 = v4 := ⟨_, rfl⟩
    rw [← hw2] at HB2 hb2 ⊢
    clear hw2
    go_wp2_with fail
    have hS0 := Lib.hid (rw_cellsP HB2.out.drew)
    refine R_begin (fun W => W.cell? ⟨g, 0, none⟩ = some (str r.key) ∧ W.cell? ⟨g, 2, none⟩ = some (.int .u64 r.tx) ∧ W.cell? ⟨g, 3, none⟩ = some (.int .u32 r.page) ∧ W.cell? ⟨g, 4, none⟩ = some (.int .u16 r.slot) ∧ W.cell? ⟨g, 5, none⟩ = some (str r.value) ∧ W.cell? ⟨g, 6, none⟩ = some (.int .i64 r.pad)) (fun _ => false) rfl ?_
    refine R_take 0 29 (v := ?_) rfl rfl (by rfl) (by kernel_rfl) (fun _ _ _ h => h) hS0.out ?_ ?_
    rotate_left
    · intro w hSw; (try dsimp only at hSw); go_simp; (try with_reducible rfl)
    simp only [List.setIfInBounds_toArray, List.set_cons_zero, List.set_cons_succ]
    refine R_take 1 30 (v := ?_) rfl rfl (by rfl) (by kernel_rfl) (fun _ _ _ h => h) hS0.out ?_ ?_
    rotate_left
    · intro w hSw; (try dsimp only at hSw); go_simp; (try with_reducible rfl)
    simp only [List.setIfInBounds_toArray, List.set_cons_zero, List.set_cons_succ]
    refine R_take 2 31 (v := ?_) rfl rfl (by rfl) (by kernel_rfl) (fun _ _ _ h => h) hS0.out ?_ ?_
    rotate_left
    · intro w hSw; (try dsimp only at hSw); go_simp; (try with_reducible rfl)
    simp only [List.setIfInBounds_toArray, List.set_cons_zero, List.set_cons_succ]
    refine R_take 3 32 (v := ?_) rfl rfl (by rfl) (by kernel_rfl) (fun _ _ _ h => h) hS0.out ?_ ?_
    rotate_left
    · intro w hSw; (try dsimp only at hSw); go_simp; (try with_reducible rfl)
    simp only [List.setIfInBounds_toArray, List.set_cons_zero, List.set_cons_succ]
    refine R_take 4 33 (v := ?_) rfl rfl (by rfl) (by kernel_rfl) (fun _ _ _ h => h) hS0.out ?_ ?_
    rotate_left
    · intro w hSw; (try dsimp only at hSw); go_simp; (try with_reducible rfl)
    simp only [List.setIfInBounds_toArray, List.set_cons_zero, List.set_cons_succ]
    refine R_take 7 36 (v := ?_) rfl rfl (by rfl) (by kernel_rfl) (fun _ _ _ h => h) hS0.out ?_ ?_
    rotate_left
    · intro w hSw; (try dsimp only at hSw); go_simp; (try with_reducible rfl)
    simp only [List.setIfInBounds_toArray, List.set_cons_zero, List.set_cons_succ]
    refine R_take 8 37 (v := ?_) rfl rfl (by rfl) (by kernel_rfl) (fun _ _ _ h => h) hS0.out ?_ ?_
    rotate_left
    · intro w hSw; (try dsimp only at hSw); go_simp; (try with_reducible rfl)
    simp only [List.setIfInBounds_toArray, List.set_cons_zero, List.set_cons_succ]
    refine R_take 10 39 (v := ?_) rfl rfl (by rfl) (by kernel_rfl) (fun _ _ _ h => h) hS0.out ?_ ?_
    rotate_left
    · intro w hSw; (try dsimp only at hSw); go_simp; (try with_reducible rfl)
    simp only [List.setIfInBounds_toArray, List.set_cons_zero, List.set_cons_succ]
    refine R_take 11 40 (v := ?_) rfl rfl (by rfl) (by kernel_rfl) (fun _ _ _ h => h) hS0.out ?_ ?_
    rotate_left
    · intro w hSw; (try dsimp only at hSw); go_simp; (try with_reducible rfl)
    simp only [List.setIfInBounds_toArray, List.set_cons_zero, List.set_cons_succ]
    refine R_take 12 41 (v := ?_) rfl rfl (by rfl) (by kernel_rfl) (fun _ _ _ h => h) hS0.out ?_ ?_
    rotate_left
    · intro w hSw; (try dsimp only at hSw); go_simp; (try with_reducible rfl)
    simp only [List.setIfInBounds_toArray, List.set_cons_zero, List.set_cons_succ]
    refine R_take 13 42 (v := ?_) rfl rfl (by rfl) (by kernel_rfl) (fun _ _ _ h => h) hS0.out ?_ ?_
    rotate_left
    · intro w hSw; (try dsimp only at hSw); go_simp; (try with_reducible rfl)
    simp only [List.setIfInBounds_toArray, List.set_cons_zero, List.set_cons_succ]
    refine R_take 16 45 (v := ?_) rfl rfl (by rfl) (by kernel_rfl) (fun _ _ _ h => h) hS0.out ?_ ?_
    rotate_left
    · intro w hSw; (try dsimp only at hSw); go_simp; (try with_reducible rfl)
    simp only [List.setIfInBounds_toArray, List.set_cons_zero, List.set_cons_succ]
    refine R_take 17 46 (v := ?_) rfl rfl (by rfl) (by kernel_rfl) (fun _ _ _ h => h) hS0.out ?_ ?_
    rotate_left
    · intro w hSw; (try dsimp only at hSw); go_simp; (try with_reducible rfl)
    simp only [List.setIfInBounds_toArray, List.set_cons_zero, List.set_cons_succ]
    refine R_call 5 34 (w' := w2.drew) rfl rfl (by rfl) (by kernel_rfl) ?_ (ref07_num r.key.length 1 w2.drew (by omega) (by omega) (by omega) (by omega)) ?_
    · go_simp
    rintro e v1 ⟨rfl, hbv1⟩
    have hBv1 : Below w2.heap.size w2 v1 := ⟨hbv1.os, hbv1.tape, hbv1.output, hbv1.size, hbv1.block⟩
    have hsv1 := rw_cellsP (HB2.out.below hBv1 HB2.out.lt)
    refine ⟨_, rfl, fun _ => hsv1, ?_⟩
    simp only [List.setIfInBounds_toArray, List.set_cons_zero, List.set_cons_succ]
    have hS1 := Lib.hid hsv1
    clear hsv1 hbv1
    refine R_take 6 35 (v := ?_) rfl rfl (by rfl) (by kernel_rfl) (fun _ _ _ h => h) hS1.out ?_ ?_
    rotate_left
    · intro w hSw; (try dsimp only at hSw); go_simp; (try with_reducible rfl)
    simp only [List.setIfInBounds_toArray, List.set_cons_zero, List.set_cons_succ]
    refine R_take 9 38 (v := ?_) rfl rfl (by rfl) (by kernel_rfl) (fun _ _ _ h => h) hS1.out ?_ ?_
    rotate_left
    · intro w hSw; (try dsimp only at hSw); go_simp; (try with_reducible rfl)
    simp only [List.setIfInBounds_toArray, List.set_cons_zero, List.set_cons_succ]
    refine R_call 14 43 (w' := v1) rfl rfl (by rfl) (by kernel_rfl) ?_ (ref07_num r.value.length 1 v1 (by omega) (by omega) (by omega) (by omega)) ?_
    · go_simp
    rintro e v2 ⟨rfl, hbv2⟩
    have hBv2 : Below w2.heap.size w2 v2 := hBv1.trans (hbv2.mono hBv1.size)
    have hsv2 := rw_cellsP (HB2.out.below hBv2 HB2.out.lt)
    refine ⟨_, rfl, fun _ => hsv2, ?_⟩
    simp only [List.setIfInBounds_toArray, List.set_cons_zero, List.set_cons_succ]
    have hS2 := Lib.hid hsv2
    clear hsv2 hbv2 hBv1
    refine R_take 15 44 (v := ?_) rfl rfl (by rfl) (by kernel_rfl) (fun _ _ _ h => h) hS2.out ?_ ?_
    rotate_left
    · intro w hSw; (try dsimp only at hSw); go_simp; (try with_reducible rfl)
    simp only [List.setIfInBounds_toArray, List.set_cons_zero, List.set_cons_succ]
    refine R_take 18 47 (v := ?_) rfl rfl (by rfl) (by kernel_rfl) (fun _ _ _ h => h) hS2.out ?_ ?_
    rotate_left
    · intro w hSw; (try dsimp only at hSw); go_simp; (try with_reducible rfl)
    simp only [List.setIfInBounds_toArray, List.set_cons_zero, List.set_cons_succ]
    refine R_take 19 5 (v := ?_) rfl rfl (by rfl) (by kernel_rfl) (fun _ _ _ h => h) hS2.out ?_ ?_
    rotate_left
    · intro w hSw; (try dsimp only at hSw); go_simp; (try with_reducible rfl)
    simp only [List.setIfInBounds_toArray, List.set_cons_zero, List.set_cons_succ]
    refine R_done (by kernel_rfl) ?_ _
    rename_i K9 hK9
    refine hK9 _ _ ?_
    clear hK9
    have HB3 := Lib.hid (HB2.out.below hBv2 HB2.out.lt)
    have hb3 := hb2.trans (hBv2.mono hb2.size)
    have p6 := HB3.out.cell 6
    simp only [List.getElem?_toArray, List.getElem?_cons_succ, List.getElem?_cons_zero] at p6
    clear hS0 hS1 hS2 HB2 hBv2
    have hmk := makeP r.pad HP0.out
    have hcv := convP r.pad
    go_wp2_with fail
    go_ret2
    refine ⟨?_, hb3.alloc hb3.size _⟩
    have e : r.bytes = Sp.be 1 0 ++ Sp.be 8 r.tx ++ Sp.be 4 r.page ++ Sp.be 2 r.slot ++ Sp.be 1 r.key.length ++ r.key ++ Sp.be 1 r.value.length ++ r.value ++ Sp.zeros r.pad := by
      unfold Sp.Rw.bytes Sp.Rw.head
      rw [HMN.out]
    rw [e]
    rfl
  | true =>
    rw [hm] at m0
    have HMN : Hid (r.markN = 1) := Lib.hid (by unfold Sp.Rw.markN; rw [hm]; rfl)
    clear hm
    go_wp2_with fail
    have hS0 := Lib.hid (rw_cellsP HB.out.drew)
    clear m0
    refine R_begin (fun W => W.cell? ⟨g, 0, none⟩ = some (str r.key) ∧ W.cell? ⟨g, 2, none⟩ = some (.int .u64 r.tx) ∧ W.cell? ⟨g, 3, none⟩ = some (.int .u32 r.page) ∧ W.cell? ⟨g, 4, none⟩ = some (.int .u16 r.slot) ∧ W.cell? ⟨g, 5, none⟩ = some (str r.value) ∧ W.cell? ⟨g, 6, none⟩ = some (.int .i64 r.pad)) (fun _ => false) rfl ?_
    refine R_take 0 11 (v := ?_) rfl rfl (by rfl) (by kernel_rfl) (fun _ _ _ h => h) hS0.out ?_ ?_
    rotate_left
    · intro w hSw; (try dsimp only at hSw); go_simp; (try with_reducible rfl)
    simp only [List.setIfInBounds_toArray, List.set_cons_zero, List.set_cons_succ]
    refine R_take 2 13 (v := ?_) rfl rfl (by rfl) (by kernel_rfl) (fun _ _ _ h => h) hS0.out ?_ ?_
    rotate_left
    · intro w hSw; (try dsimp only at hSw); go_simp; (try with_reducible rfl)
    simp only [List.setIfInBounds_toArray, List.set_cons_zero, List.set_cons_succ]
    refine R_take 3 14 (v := ?_) rfl rfl (by rfl) (by kernel_rfl) (fun _ _ _ h => h) hS0.out ?_ ?_
    rotate_left
    · intro w hSw; (try dsimp only at hSw); go_simp; (try with_reducible rfl)
    simp only [List.setIfInBounds_toArray, List.set_cons_zero, List.set_cons_succ]
    refine R_take 6 17 (v := ?_) rfl rfl (by rfl) (by kernel_rfl) (fun _ _ _ h => h) hS0.out ?_ ?_
    rotate_left
    · intro w hSw; (try dsimp only at hSw); go_simp; (try with_reducible rfl)
    simp only [List.setIfInBounds_toArray, List.set_cons_zero, List.set_cons_succ]
    refine R_take 7 18 (v := ?_) rfl rfl (by rfl) (by kernel_rfl) (fun _ _ _ h => h) hS0.out ?_ ?_
    rotate_left
    · intro w hSw; (try dsimp only at hSw); go_simp; (try with_reducible rfl)
    simp only [List.setIfInBounds_toArray, List.set_cons_zero, List.set_cons_succ]
    refine R_take 8 19 (v := ?_) rfl rfl (by rfl) (by kernel_rfl) (fun _ _ _ h => h) hS0.out ?_ ?_
    rotate_left
    · intro w hSw; (try dsimp only at hSw); go_simp; (try with_reducible rfl)
    simp only [List.setIfInBounds_toArray, List.set_cons_zero, List.set_cons_succ]
    refine R_take 9 20 (v := ?_) rfl rfl (by rfl) (by kernel_rfl) (fun _ _ _ h => h) hS0.out ?_ ?_
    rotate_left
    · intro w hSw; (try dsimp only at hSw); go_simp; (try with_reducible rfl)
    simp only [List.setIfInBounds_toArray, List.set_cons_zero, List.set_cons_succ]
    refine R_take 12 23 (v := ?_) rfl rfl (by rfl) (by kernel_rfl) (fun _ _ _ h => h) hS0.out ?_ ?_
    rotate_left
    · intro w hSw; (try dsimp only at hSw); go_simp; (try with_reducible rfl)
    simp only [List.setIfInBounds_toArray, List.set_cons_zero, List.set_cons_succ]
    refine R_take 13 24 (v := ?_) rfl rfl (by rfl) (by kernel_rfl) (fun _ _ _ h => h) hS0.out ?_ ?_
    rotate_left
    · intro w hSw; (try dsimp only at hSw); go_simp; (try with_reducible rfl)
    simp only [List.setIfInBounds_toArray, List.set_cons_zero, List.set_cons_succ]
    refine R_take 14 25 (v := ?_) rfl rfl (by rfl) (by kernel_rfl) (fun _ _ _ h => h) hS0.out ?_ ?_
    rotate_left
    · intro w hSw; (try dsimp only at hSw); go_simp; (try with_reducible rfl)
    simp only [List.setIfInBounds_toArray, List.set_cons_zero, List.set_cons_succ]
    refine R_take 15 26 (v := ?_) rfl rfl (by rfl) (by kernel_rfl) (fun _ _ _ h => h) hS0.out ?_ ?_
    rotate_left
    · intro w hSw; (try dsimp only at hSw); go_simp; (try with_reducible rfl)
    simp only [List.setIfInBounds_toArray, List.set_cons_zero, List.set_cons_succ]
    refine R_call 1 12 (w' := w1.drew) rfl rfl (by rfl) (by kernel_rfl) ?_ (ref07_num 1 1 w1.drew (by omega) (by omega) (by omega) (by omega)) ?_
    · go_simp
    rintro e v1 ⟨rfl, hbv1⟩
    have hBv1 : Below w1.heap.size w1 v1 := ⟨hbv1.os, hbv1.tape, hbv1.output, hbv1.size, hbv1.block⟩
    have hsv1 := rw_cellsP (HB.out.below hBv1 HB.out.lt)
    refine ⟨_, rfl, fun _ => hsv1, ?_⟩
    simp only [List.setIfInBounds_toArray, List.set_cons_zero, List.set_cons_succ]
    have hS1 := Lib.hid hsv1
    clear hsv1 hbv1
    refine R_call 4 15 (w' := v1) rfl rfl (by rfl) (by kernel_rfl) ?_ (ref07_num r.tx 8 v1 (by omega) (by omega) hwf.1 hwf.1) ?_
    · go_simp
    rintro e v2 ⟨rfl, hbv2⟩
    have hBv2 : Below w1.heap.size w1 v2 := hBv1.trans (hbv2.mono hBv1.size)
    have hsv2 := rw_cellsP (HB.out.below hBv2 HB.out.lt)
    refine ⟨_, rfl, fun _ => hsv2, ?_⟩
    simp only [List.setIfInBounds_toArray, List.set_cons_zero, List.set_cons_succ]
    have hS2 := Lib.hid hsv2
    clear hsv2 hbv2 hBv1
    refine R_take 5 16 (v := ?_) rfl rfl (by rfl) (by kernel_rfl) (fun _ _ _ h => h) hS2.out ?_ ?_
    rotate_left
    · intro w hSw; (try dsimp only at hSw); go_simp; (try with_reducible rfl)
    simp only [List.setIfInBounds_toArray, List.set_cons_zero, List.set_cons_succ]
    refine R_call 10 21 (w' := v2) rfl rfl (by rfl) (by kernel_rfl) ?_ (ref07_num r.page 4 v2 (by omega) (by omega) (by omega) (by omega)) ?_
    · go_simp
    rintro e v3 ⟨rfl, hbv3⟩
    have hBv3 : Below w1.heap.size w1 v3 := hBv2.trans (hbv3.mono hBv2.size)
    have hsv3 := rw_cellsP (HB.out.below hBv3 HB.out.lt)
    refine ⟨_, rfl, fun _ => hsv3, ?_⟩
    simp only [List.setIfInBounds_toArray, List.set_cons_zero, List.set_cons_succ]
    have hS3 := Lib.hid hsv3
    clear hsv3 hbv3 hBv2
    refine R_take 11 22 (v := ?_) rfl rfl (by rfl) (by kernel_rfl) (fun _ _ _ h => h) hS3.out ?_ ?_
    rotate_left
    · intro w hSw; (try dsimp only at hSw); go_simp; (try with_reducible rfl)
    simp only [List.setIfInBounds_toArray, List.set_cons_zero, List.set_cons_succ]
    refine R_call 16 27 (w' := v3) rfl rfl (by rfl) (by kernel_rfl) ?_ (ref07_num r.slot 2 v3 (by omega) (by omega) hwf.2 (by omega)) ?_
    · go_simp
    rintro e v4 ⟨rfl, hbv4⟩
    have hBv4 : Below w1.heap.size w1 v4 := hBv3.trans (hbv4.mono hBv3.size)
    have hsv4 := rw_cellsP (HB.out.below hBv4 HB.out.lt)
    refine ⟨_, rfl, fun _ => hsv4, ?_⟩
    simp only [List.setIfInBounds_toArray, List.set_cons_zero, List.set_cons_succ]
    have hS4 := Lib.hid hsv4
    clear hsv4 hbv4 hBv3
    refine R_take 17 28 (v := ?_) rfl rfl (by rfl) (by kernel_rfl) (fun _ _ _ h => h) hS4.out ?_ ?_
    rotate_left
    · intro w hSw; (try dsimp only at hSw); go_simp; (try with_reducible rfl)
    simp only [List.setIfInBounds_toArray, List.set_cons_zero, List.set_cons_succ]
    refine R_take 18 5 (v := ?_) rfl rfl (by rfl) (by kernel_rfl) (fun _ _ _ h => h) hS4.out ?_ ?_
    rotate_left
    · intro w hSw; (try dsimp only at hSw); go_simp; (try with_reducible rfl)
    simp only [List.setIfInBounds_toArray, List.set_cons_zero, List.set_cons_succ]
    refine R_done (by kernel_rfl) ?_ _
    rename_i K9 hK9
    refine hK9 _ _ ?_
    clear hK9
    have HB2 := Lib.hid (HB.out.below hBv4 HB.out.lt)
    have hb2 := hb0.trans (hBv4.mono hb0.size)
    clear hS0 hS1 hS2 hS3 hS4 HB hBv4
    obtain ⟨w2, hw2⟩ : ∃ w2, w2 = v4 := ⟨_, rfl⟩
    rw [← hw2] at HB2 hb2 ⊢
    clear hw2
    go_wp2_with fail
    have hS0 := Lib.hid (rw_cellsP HB2.out.drew)
    refine R_begin (fun W => W.cell? ⟨g, 0, none⟩ = some (str r.key) ∧ W.cell? ⟨g, 2, none⟩ = some (.int .u64 r.tx) ∧ W.cell? ⟨g, 3, none⟩ = some (.int .u32 r.page) ∧ W.cell? ⟨g, 4, none⟩ = some (.int .u16 r.slot) ∧ W.cell? ⟨g, 5, none⟩ = some (str r.value) ∧ W.cell? ⟨g, 6, none⟩ = some (.int .i64 r.pad)) (fun _ => false) rfl ?_
    refine R_take 0 29 (v := ?_) rfl rfl (by rfl) (by kernel_rfl) (fun _ _ _ h => h) hS0.out ?_ ?_
    rotate_left
    · intro w hSw; (try dsimp only at hSw); go_simp; (try with_reducible rfl)
    simp only [List.setIfInBounds_toArray, List.set_cons_zero, List.set_cons_succ]
    refine R_take 1 30 (v := ?_) rfl rfl (by rfl) (by kernel_rfl) (fun _ _ _ h => h) hS0.out ?_ ?_
    rotate_left
    · intro w hSw; (try dsimp only at hSw); go_simp; (try with_reducible rfl)
    simp only [List.setIfInBounds_toArray, List.set_cons_zero, List.set_cons_succ]
    refine R_take 2 31 (v := ?_) rfl rfl (by rfl) (by kernel_rfl) (fun _ _ _ h => h) hS0.out ?_ ?_
    rotate_left
    · intro w hSw; (try dsimp only at hSw); go_simp; (try with_reducible rfl)
    simp only [List.setIfInBounds_toArray, List.set_cons_zero, List.set_cons_succ]
    refine R_take 3 32 (v := ?_) rfl rfl (by rfl) (by kernel_rfl) (fun _ _ _ h => h) hS0.out ?_ ?_
    rotate_left
    · intro w hSw; (try dsimp only at hSw); go_simp; (try with_reducible rfl)
    simp only [List.setIfInBounds_toArray, List.set_cons_zero, List.set_cons_succ]
    refine R_take 4 33 (v := ?_) rfl rfl (by rfl) (by kernel_rfl) (fun _ _ _ h => h) hS0.out ?_ ?_
    rotate_left
    · intro w hSw; (try dsimp only at hSw); go_simp; (try with_reducible rfl)
    simp only [List.setIfInBounds_toArray, List.set_cons_zero, List.set_cons_succ]
    refine R_take 7 36 (v := ?_) rfl rfl (by rfl) (by kernel_rfl) (fun _ _ _ h => h) hS0.out ?_ ?_
    rotate_left
    · intro w hSw; (try dsimp only at hSw); go_simp; (try with_reducible rfl)
    simp only [List.setIfInBounds_toArray, List.set_cons_zero, List.set_cons_succ]
    refine R_take 8 37 (v := ?_) rfl rfl (by rfl) (by kernel_rfl) (fun _ _ _ h => h) hS0.out ?_ ?_
    rotate_left
    · intro w hSw; (try dsimp only at hSw); go_simp; (try with_reducible rfl)
    simp only [List.setIfInBounds_toArray, List.set_cons_zero, List.set_cons_succ]
    refine R_take 10 39 (v := ?_) rfl rfl (by rfl) (by kernel_rfl) (fun _ _ _ h => h) hS0.out ?_ ?_
    rotate_left
    · intro w hSw; (try dsimp only at hSw); go_simp; (try with_reducible rfl)
    simp only [List.setIfInBounds_toArray, List.set_cons_zero, List.set_cons_succ]
    refine R_take 11 40 (v := ?_) rfl rfl (by rfl) (by kernel_rfl) (fun _ _ _ h => h) hS0.out ?_ ?_
    rotate_left
    · intro w hSw; (try dsimp only at hSw); go_simp; (try with_reducible rfl)
    simp only [List.setIfInBounds_toArray, List.set_cons_zero, List.set_cons_succ]
    refine R_take 12 41 (v := ?_) rfl rfl (by rfl) (by kernel_rfl) (fun _ _ _ h => h) hS0.out ?_ ?_
    rotate_left
    · intro w hSw; (try dsimp only at hSw); go_simp; (try with_reducible rfl)
    simp only [List.setIfInBounds_toArray, List.set_cons_zero, List.set_cons_succ]
    refine R_take 13 42 (v := ?_) rfl rfl (by rfl) (by kernel_rfl) (fun _ _ _ h => h) hS0.out ?_ ?_
    rotate_left
    · intro w hSw; (try dsimp only at hSw); go_simp; (try with_reducible rfl)
    simp only [List.setIfInBounds_toArray, List.set_cons_zero, List.set_cons_succ]
    refine R_take 16 45 (v := ?_) rfl rfl (by rfl) (by kernel_rfl) (fun _ _ _ h => h) hS0.out ?_ ?_
    rotate_left
    · intro w hSw; (try dsimp only at hSw); go_simp; (try with_reducible rfl)
    simp only [List.setIfInBounds_toArray, List.set_cons_zero, List.set_cons_succ]
    refine R_take 17 46 (v := ?_) rfl rfl (by rfl) (by kernel_rfl) (fun _ _ _ h => h) hS0.out ?_ ?_
    rotate_left
    · intro w hSw; (try dsimp only at hSw); go_simp; (try with_reducible rfl)
    simp only [List.setIfInBounds_toArray, List.set_cons_zero, List.set_cons_succ]
    refine R_call 5 34 (w' := w2.drew) rfl rfl (by rfl) (by kernel_rfl) ?_ (ref07_num r.key.length 1 w2.drew (by omega) (by omega) (by omega) (by omega)) ?_
    · go_simp
    rintro e v1 ⟨rfl, hbv1⟩
    have hBv1 : Below w2.heap.size w2 v1 := ⟨hbv1.os, hbv1.tape, hbv1.output, hbv1.size, hbv1.block⟩
    have hsv1 := rw_cellsP (HB2.out.below hBv1 HB2.out.lt)
    refine ⟨_, rfl, fun _ => hsv1, ?_⟩
    simp only [List.setIfInBounds_toArray, List.set_cons_zero, List.set_cons_succ]
    have hS1 := Lib.hid hsv1
    clear hsv1 hbv1
    refine R_take 6 35 (v := ?_) rfl rfl (by rfl) (by kernel_rfl) (fun _ _ _ h => h) hS1.out ?_ ?_
    rotate_left
    · intro w hSw; (try dsimp only at hSw); go_simp; (try with_reducible rfl)
    simp only [List.setIfInBounds_toArray, List.set_cons_zero, List.set_cons_succ]
    refine R_take 9 38 (v := ?_) rfl rfl (by rfl) (by kernel_rfl) (fun _ _ _ h => h) hS1.out ?_ ?_
    rotate_left
    · intro w hSw; (try dsimp only at hSw); go_simp; (try with_reducible rfl)
    simp only [List.setIfInBounds_toArray, List.set_cons_zero, List.set_cons_succ]
    refine R_call 14 43 (w' := v1) rfl rfl (by rfl) (by kernel_rfl) ?_ (ref07_num r.value.length 1 v1 (by omega) (by omega) (by omega) (by omega)) ?_
    · go_simp
    rintro e v2 ⟨rfl, hbv2⟩
    have hBv2 : Below w2.heap.size w2 v2 := hBv1.trans (hbv2.mono hBv1.size)
    have hsv2 := rw_cellsP (HB2.out.below hBv2 HB2.out.lt)
    refine ⟨_, rfl, fun _ => hsv2, ?_⟩
    simp only [List.setIfInBounds_toArray, List.set_cons_zero, List.set_cons_succ]
    have hS2 := Lib.hid hsv2
    clear hsv2 hbv2 hBv1
    refine R_take 15 44 (v := ?_) rfl rfl (by rfl) (by kernel_rfl) (fun _ _ _ h => h) hS2.out ?_ ?_
    rotate_left
    · intro w hSw; (try dsimp only at hSw); go_simp; (try with_reducible rfl)
    simp only [List.setIfInBounds_toArray, List.set_cons_zero, List.set_cons_succ]
    refine R_take 18 47 (v := ?_) rfl rfl (by rfl) (by kernel_rfl) (fun _ _ _ h => h) hS2.out ?_ ?_
    rotate_left
    · intro w hSw; (try dsimp only at hSw); go_simp; (try with_reducible rfl)
    simp only [List.setIfInBounds_toArray, List.set_cons_zero, List.set_cons_succ]
    refine R_take 19 5 (v := ?_) rfl rfl (by rfl) (by kernel_rfl) (fun _ _ _ h => h) hS2.out ?_ ?_
    rotate_left
    · intro w hSw; (try dsimp only at hSw); go_simp; (try with_reducible rfl)
    simp only [List.setIfInBounds_toArray, List.set_cons_zero, List.set_cons_succ]
    refine R_done (by kernel_rfl) ?_ _
    rename_i K9 hK9
    refine hK9 _ _ ?_
    clear hK9
    have HB3 := Lib.hid (HB2.out.below hBv2 HB2.out.lt)
    have hb3 := hb2.trans (hBv2.mono hb2.size)
    have p6 := HB3.out.cell 6
    simp only [List.getElem?_toArray, List.getElem?_cons_succ, List.getElem?_cons_zero] at p6
    clear hS0 hS1 hS2 HB2 hBv2
    have hmk := makeP r.pad HP0.out
    have hcv := convP r.pad
    go_wp2_with fail
    go_ret2
    refine ⟨?_, hb3.alloc hb3.size _⟩
    have e : r.bytes = Sp.be 1 1 ++ Sp.be 8 r.tx ++ Sp.be 4 r.page ++ Sp.be 2 r.slot ++ Sp.be 1 r.key.length ++ r.key ++ Sp.be 1 r.value.length ++ r.value ++ Sp.zeros r.pad := by
      unfold Sp.Rw.bytes Sp.Rw.head
      rw [HMN.out]
    rw [e]
    rfl
end Go.Proofs.YtafopojibpifoaaGreat
