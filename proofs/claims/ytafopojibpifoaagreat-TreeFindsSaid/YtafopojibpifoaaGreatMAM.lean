/- The walk of package tree: the closure of Check, which goes down from a page: one step, on what its calls do with less fuel. -/
import Derived.Test.YtafopojibpifoaaGreatMAL
import Derived.Deep.CutBlock
import Derived.Test.YtafopojibpifoaaGreatMAJ
import Derived.RegionTactic
import Derived.ChangeAlike
import Derived.Laws.EntriesVeiled

namespace Go.Proofs.YtafopojibpifoaaGreat
open Go.RowKit Go.Conc

theorem WkC.seen {B : Bx} {gt base : Nat} {v : Value} {s : Sp.WSt} {w w1 : World} (h : WkC B gt base v s w) {id : Nat} (hm : USet Tryz.prog 33 4 w1 B.m (s.seen.length + 1) (s.seen ++ [id])) (hg : w.grownBy w1 (some B.m)) : WkC B gt base v ⟨s.seen ++ [id], s.next, s.first, s.pages, s.rows⟩ w1 := by
  have far : ∀ {b : Nat} {t : TypeId} {cs : Array Value}, Blk w b t cs → Blk w1 b t cs := fun hb => hb.grown hg (fun e => by injection e with e; exact h.map_ne hb e)
  refine ⟨far h.xs, far h.xt, far h.xp, far h.xf, far h.xn, far h.xr, far h.xw, by rw [List.length_append]; exact hm, ?_, h.lo⟩
  exact row_keep' h.xg (fun b hb => hg.block b (h.xg.lt b hb).2 (fun e => by
    injection e with e
    exact h.row_ne (.inr rfl) (e ▸ hb)))
/-- A page more is told. -/
theorem WkC.pushed {B : Bx} {gt base : Nat} {v v' : Value} {s : Sp.WSt} {w w5 : World} (h : WkC B gt base v s w) {id : Nat} (q1 : w5.ownsRow base 33 1 v' (s.pages.length + 1) (s.pages.map u32v ++ [u32v id])) (hg : w.grownBy w5 v.ownBlock) :
    WkC B gt base v' ⟨s.seen, s.next, s.first, s.pages ++ [id], s.rows⟩ (w5.setCell ⟨B.p, 0, none⟩ v') := by
  have nb : ∀ b, B.has b ∨ b = B.m → w5.heap[b]? = w.heap[b]? := fun b hb => hg.block b (h.lt (hb.imp (fun h => h) .inl)) (fun e => h.row_ne hb e.symm)
  have far : ∀ b, B.has b ∨ b = B.m → b ≠ B.p → (w5.setCell ⟨B.p, 0, none⟩ v').heap[b]? = w.heap[b]? := fun b hb hne => (Below.heap_setCell w5 _ _ b hne).trans (nb b hb)
  have h2 := h.xs.ne_ h.xp (by decide)
  have h3 := h.xt.ne_ h.xp (by decide)
  have h4 := h.xf.ne_ h.xp (by decide)
  have h5 := h.xn.ne_ h.xp (by decide)
  have h6 := h.xr.ne_ h.xp (by decide)
  have h7 := h.xw.ne_ h.xp (by decide)
  have hp5 : Blk w5 B.p 34 #[v] := h.xp.keep (nb _ (.inl (.inr (.inr (.inl rfl)))))
  have hpb : v'.ownBlock ≠ some B.p := fun e => by
    have := (q1.lt _ e).1
    have := h.lo B.p (.inl (.inr (.inr (.inl rfl))))
    omega
  refine ⟨h.xs.keep (far _ (.inl (.inl rfl)) h2), h.xt.keep (far _ (.inl (.inr (.inl rfl))) h3), ?_, h.xf.keep (far _ (.inl (.inr (.inr (.inr (.inl rfl))))) h4), h.xn.keep (far _ (.inl (.inr (.inr (.inr (.inr (.inl rfl)))))) h5),
    h.xr.keep (far _ (.inl (.inr (.inr (.inr (.inr (.inr (.inl rfl))))))) h6), h.xw.keep (far _ (.inl (.inr (.inr (.inr (.inr (.inr (.inr rfl))))))) h7), h.xm.keep (far _ (.inr rfl) (Ne.symm (h.map_ne h.xp))), ?_, h.lo⟩
  · exact hp5.set_ 0 v'
  · rw [List.length_append, List.map_append]
    exact row_keep' q1 (fun b hb => Below.heap_setCell w5 _ _ b (fun e => hpb (by have e : b = B.p := e; rw [← e]; exact hb)))
/-- A leaf is told. -/
theorem WkC.left {B : Bx} {gt base : Nat} {v : Value} {s : Sp.WSt} {w : World} (h : WkC B gt base v s w) (nx k : Nat) :
    WkC B gt base v ⟨s.seen, nx, false, s.pages, s.rows + k⟩ (((w.setCell ⟨B.f, 0, none⟩ (.bool false)).setCell ⟨B.n, 0, none⟩ (.int .u32 nx)).setCell ⟨B.r, 0, none⟩ (.int .i64 ((s.rows : Int) + (k : Int)))).drew := by
  have far : ∀ b, b ≠ B.f → b ≠ B.n → b ≠ B.r → ((((w.setCell ⟨B.f, 0, none⟩ (.bool false)).setCell ⟨B.n, 0, none⟩ (.int .u32 nx)).setCell ⟨B.r, 0, none⟩ (.int .i64 ((s.rows : Int) + (k : Int)))).drew).heap[b]? = w.heap[b]? := fun b h1 h2 h3 =>
    (Below.heap_setCell _ _ _ b h3).trans ((Below.heap_setCell _ _ _ b h2).trans (Below.heap_setCell _ _ _ b h1))
  have rown : ∀ b, v.ownBlock = some b → b ≠ B.f ∧ b ≠ B.n ∧ b ≠ B.r := fun b hb => ⟨fun e => h.row_ne (.inl (.inr (.inr (.inr (.inl rfl))))) (by rw [← e]; exact hb), fun e => h.row_ne (.inl (.inr (.inr (.inr (.inr (.inl rfl)))))) (by rw [← e]; exact hb), fun e => h.row_ne (.inl (.inr (.inr (.inr (.inr (.inr (.inl rfl))))))) (by rw [← e]; exact hb)⟩
  have n1 := h.xf.ne_ h.xn (by decide)
  have n2 := h.xf.ne_ h.xr (by decide)
  have n3 := h.xn.ne_ h.xr (by decide)
  refine ⟨h.xs.keep (far _ (h.xs.ne_ h.xf (by decide)) (h.xs.ne_ h.xn (by decide)) (h.xs.ne_ h.xr (by decide))), h.xt.keep (far _ (h.xt.ne_ h.xf (by decide)) (h.xt.ne_ h.xn (by decide)) (h.xt.ne_ h.xr (by decide))), h.xp.keep (far _ (h.xp.ne_ h.xf (by decide)) (h.xp.ne_ h.xn (by decide)) (h.xp.ne_ h.xr (by decide))),
    ?_, ?_, ?_, h.xw.keep (far _ (h.xw.ne_ h.xf (by decide)) (h.xw.ne_ h.xn (by decide)) (h.xw.ne_ h.xr (by decide))), h.xm.keep (far _ (Ne.symm (h.map_ne h.xf)) (Ne.symm (h.map_ne h.xn)) (Ne.symm (h.map_ne h.xr))), row_keep' h.xg (fun b hb => far b (rown b hb).1 (rown b hb).2.1 (rown b hb).2.2), h.lo⟩
  · exact ((h.xf.set_ 0 (.bool false)).far (p := ⟨B.n, 0, none⟩) n1 (.int .u32 nx)).far (p := ⟨B.r, 0, none⟩) n2 _
  · exact (((h.xn.far (p := ⟨B.f, 0, none⟩) (Ne.symm n1) (.bool false)).set_ 0 (.int .u32 nx)).far (p := ⟨B.r, 0, none⟩) n3 _)
  · have := (((h.xr.far (p := ⟨B.f, 0, none⟩) (Ne.symm n2) (.bool false)).far (p := ⟨B.n, 0, none⟩) (Ne.symm n3) (.int .u32 nx)).set_ 0 (.int .i64 ((s.rows : Int) + (k : Int))))
    rw [show ((s.rows + k : Nat) : Int) = (s.rows : Int) + (k : Int) by omega]
    exact this
/-- An entry's key, as far as it counts; where its keys end. -/
def Sp.loK (es : List Sp.En) (lo : Sp.Bs) (m : Nat) : Sp.Bs := if m = 0 then lo else (es[m]?.map (·.key)).getD []
def Sp.hiK (es : List Sp.En) (hi : Sp.Bs) (m : Nat) : Sp.Bs := (es[m + 1]?.map (·.key)).getD hi
def Sp.hiF (hi : Sp.Bs) : List Sp.En → Sp.Bs
  | [] => hi
  | e2 :: _ => e2.key
theorem Sp.goF_cons' (rec : Sp.WSt → Nat → Int → Sp.Bs → Sp.Bs → Option (Nat × Sp.WSt)) (lv : Int) (lo hi : Sp.Bs) (fst : Bool) (e : Sp.En) (es : List Sp.En) (s : Sp.WSt) : Sp.goF rec lv lo hi fst (e :: es) s =
    if fst = false ∧ Sp.inK e.key lo hi = false then some (180, s) else
    match rec s e.child lv (if fst then lo else e.key) (Sp.hiF hi es) with
    | none => none
    | some (m, s') => if m = 0 then Sp.goF rec lv lo hi false es s' else some (m, s') := by
  cases es <;> rfl
theorem Sp.go_at {rec : Sp.WSt → Nat → Int → Sp.Bs → Sp.Bs → Option (Nat × Sp.WSt)} {lv : Int} {lo hi : Sp.Bs} {es : List Sp.En} {m : Nat} (h : m < es.length) {s : Sp.WSt} {r : Nat × Sp.WSt} (hg : Sp.goF rec lv lo hi (decide (m = 0)) (es.drop m) s = some r) :
    (m ≠ 0 ∧ Sp.inK es[m].key lo hi = false ∧ r = (180, s)) ∨ (¬ (m ≠ 0 ∧ Sp.inK es[m].key lo hi = false) ∧ ∃ r', rec s es[m].child lv (Sp.loK es lo m) (Sp.hiK es hi m) = some r' ∧ ((r'.1 ≠ 0 ∧ r = r') ∨ (r'.1 = 0 ∧ Sp.goF rec lv lo hi (decide (m + 1 = 0)) (es.drop (m + 1)) r'.2 = some r))) := by
  rw [List.drop_eq_getElem_cons h, Sp.goF_cons'] at hg
  split at hg
  · rename_i hc
    injection hg with hg
    exact .inl ⟨by simpa using hc.1, hc.2, hg.symm⟩
  · rename_i hc
    refine .inr ⟨fun h2 => hc ⟨by simpa using h2.1, h2.2⟩, ?_⟩
    have e1 : (if decide (m = 0) = true then lo else es[m].key) = Sp.loK es lo m := by
      unfold Sp.loK
      by_cases e : m = 0
      · simp [e]
      · rw [if_neg (by simpa using e), if_neg e, List.getElem?_eq_getElem h]; rfl
    have e2 : Sp.hiF hi (es.drop (m + 1)) = Sp.hiK es hi m := by
      unfold Sp.hiK
      by_cases hl : m + 1 < es.length
      · rw [List.drop_eq_getElem_cons hl, List.getElem?_eq_getElem hl]; rfl
      · rw [List.drop_eq_nil_of_le (by omega), List.getElem?_eq_none (by omega)]; rfl
    rw [e1, e2] at hg
    cases hr : rec s es[m].child lv (Sp.loK es lo m) (Sp.hiK es hi m) with
    | none => rw [hr] at hg; cases hg
    | some r' =>
      rw [hr] at hg
      obtain ⟨n', s'⟩ := r'
      simp only [] at hg
      refine ⟨_, rfl, ?_⟩
      by_cases e : n' = 0
      · rw [if_pos e] at hg
        exact .inr ⟨e, by simpa using hg⟩
      · rw [if_neg e] at hg
        injection hg with hg
        exact .inl ⟨e, hg.symm⟩
/-- Is a page none of the walk's? -/
def wkBad (x : Sp.Kn) : Bool :=
  match x with
  | .bad => true
  | _ => false
def wkOff (pg : Nat → Sp.Pg) (x : Sp.Kn) (id : Nat) : Prop :=
  match x with
  | .inner _ => 8 ≤ (pg id).level ∨ (pg id).next ≠ 0
  | _ => False
/-- What is known of a page that is gone through. -/
theorem wk_good {pg : Nat → Sp.Pg} {x : Sp.Kn} {id : Nat} {level : Int} (h : Sp.KnOk (pg id) x) (hb : wkBad x = false) (hx : (0 ≤ level ∧ ((pg id).level : Int) ≠ level) ∨ wkOff pg x id → False) : (∃ ks, Sp.NodePg (pg id) ks) ∧ (decide (0 ≤ level) = false ∨ level = ((pg id).level : Int)) ∧ (pg id).level < 8 ∧ ((pg id).kind = 1 ∨ ((pg id).kind = 2 ∧ (pg id).next = 0)) := by
  have hlev : decide (0 ≤ level) = false ∨ level = ((pg id).level : Int) := by
    rcases Int.lt_or_le level 0 with h | h
    · exact .inl (by rw [decide_eq_false_iff_not]; omega)
    · by_cases e : ((pg id).level : Int) = level
      · exact .inr e.symm
      · exact (hx (.inl ⟨h, e⟩)).elim
  cases x with
  | bad => cases hb
  | leaf rs =>
    have := h.1.2.1
    exact ⟨⟨_, known_leaf h⟩, hlev, by omega, .inl h.1.1⟩
  | inner es =>
    have h8 : (pg id).level < 8 := by
      rcases Nat.lt_or_ge (pg id).level 8 with h | h
      · exact h
      · exact (hx (.inr (.inl h))).elim
    have hn : (pg id).next = 0 := by
      by_cases e : (pg id).next = 0
      · exact e
      · exact (hx (.inr (.inr e))).elim
    exact ⟨⟨_, known_inner h⟩, hlev, h8, .inr ⟨h.1.1, hn⟩⟩

theorem wk_facts {pg : Nat → Sp.Pg} {x : Sp.Kn} {id : Nat} {level : Int} (h : Sp.KnOk (pg id) x) (h256 : (pg id).level < 256) (hx : wkBad x = false → (0 ≤ level ∧ ((pg id).level : Int) ≠ level) ∨ wkOff pg x id → False) (hb : wkBad x = false) :
    (∃ ks, Sp.NodePg (pg id) ks) ∧ (decide (0 ≤ level) = false ∨ level = ((pg id).level : Int)) ∧ decide ((8 : Int) ≤ ((pg id).level : Int)) = false ∧ wrap64 (((pg id).level : Nat) : Int) = (pg id).level ∧ IntKind.i64.wrap (((pg id).level : Nat) : Int) = (pg id).level ∧
      ((decide (((pg id).kind : Int) = 2) = false ∧ (((pg id).kind : Int) == 2) = false) ∨ (decide (((pg id).kind : Int) = 2) = true ∧ (((pg id).kind : Int) == 2) = true ∧ decide (((pg id).next : Int) = 0) = true ∧ (((pg id).next : Int) != 0) = false)) := by
  obtain ⟨hN, hlev, h8, hkn⟩ := wk_good h hb (hx hb)
  refine ⟨hN, hlev, by rw [decide_eq_false_iff_not]; omega, by unfold wrap64; omega, by rw [IntKind.wrap_i64]; omega, ?_⟩
  rcases hkn with h | ⟨h, h'⟩
  · exact .inl ⟨by rw [decide_eq_false_iff_not]; omega, by rw [beq_eq_false_iff_ne]; omega⟩
  · exact .inr ⟨by rw [decide_eq_true_eq]; omega, by rw [beq_iff_eq]; omega, by rw [decide_eq_true_eq]; omega, by simp; omega⟩

set_option maxRecDepth 100000 in
set_option maxHeartbeats 16000000 in
theorem wk_step {ly : Ly} {pg : Nat → Sp.Pg} {kn : Nat → Option Sp.Kn} (hkn : Known ly pg kn) {gt root ga gd gl gp n : Nat} {B : Bx} {base f : Nat} (IH : WkSpec ly pg kn gt root ga gd gl gp n B base f) : WkSpec ly pg kn gt root ga gd gl gp n B base (f + 1) := by
  intro K v s id level lo hi r w hl1 hl2 hw h
  rw [Sp.walkF] at hw
  by_cases hno : id ∈ s.seen ∨ 1000 ≤ s.seen.length
  · rw [if_pos hno] at hw; cases hw
  rw [if_neg hno] at hw
  obtain ⟨x, hkq⟩ : ∃ x, kn id = some x := by
    cases hx : kn id with
    | none => rw [hx] at hw; cases hw
    | some x => exact ⟨x, rfl⟩
  obtain ⟨hq1, hqT, hok⟩ := hkn id x hkq
  rw [hkq] at hw
  have hmay := (h.tr.ok id hq1 hqT).2.1
  have hwf := (h.tr.ok id hq1 hqT).1
  have hid : id < 4294967296 := by have := ly.small; omega
  have hsl : s.seen.length < 1000 := by
    rcases Nat.lt_or_ge s.seen.length 1000 with h | h
    · exact h
    · exact absurd (.inr h) hno
  have c0 := h.c.xs.cell 0
  simp only [List.getElem?_toArray, List.getElem?_cons_zero] at c0
  have hlook := h.c.xm.look_not Tryz.underlying33 Tryz.underlying4 Tryz.underlying82 (Tryz.zb _) hid (fun hm => hno (.inl hm))
  obtain ⟨w1, hput, hm1, hg1⟩ := h.c.xm.put (t := 82) Tryz.underlying33 Tryz.underlying4 Tryz.underlying82 (by unfold maxLen; omega) hid
  have hT1 : Turns (only B.m) (only B.m) w w1 := (Turns.refl _ w).grown hg1 (fun k hk => by injection hk with hk; exact .inl hk.symm)
  obtain ⟨h1, hK1⟩ := h.turned hT1 (fun b hb => .inl (.inr (.inl hb))) (h.c.seen hm1 hg1) (fun b hb => .inl hb) (by have := h.pl; simp; omega) (by simp; omega) (by have := h.rl; simp; omega)
  have ct := h1.c.xt.cell 0
  have cg := h1.tr.cells.1
  simp only [List.getElem?_toArray, List.getElem?_cons_zero] at ct
  have HP := Lib.hid (tree_page h1.tr hq1 hqT)
  have HKL := Lib.hid h.kl
  have HPL := Lib.hid h.pl
  have HKA := Lib.hid h.ka
  have HKT := Lib.hid h.kt
  have HRL := Lib.hid h.rl
  have HW := Lib.hid hw
  have HOK := Lib.hid hok
  have HMAY := Lib.hid hmay
  have hlv256 := hwf.2.1
  have H1 := Lib.hid h1
  have hroom := hmay.2.2.2.2
  have hbad : wkBad x = true → Sp.NoNode (pg id) := fun hb => by
    cases x with
    | bad => exact hok
    | leaf rs => cases hb
    | inner es => cases hb
  have HBAD := Lib.hid hbad
  have HGOOD := Lib.hid (wk_facts (level := level) hok hlv256 (fun hb hx => by
    cases x with
    | bad => cases hb
    | leaf rs =>
      rcases hx with hx | hx
      · simp only [] at hw
        rw [if_pos hx] at hw; cases hw
      · exact hx
    | inner es =>
      simp only [] at hw
      rw [if_pos (show (0 ≤ level ∧ ((pg id).level : Int) ≠ level) ∨ 8 ≤ (pg id).level ∨ (pg id).next ≠ 0 from hx)] at hw; cases hw))
  clear hbad hlv256
  clear hw hwf hok hmay hkq hno hm1 hg1 hT1 h h1
  go_enter Tryz.func26, Tryz.ntmps26
  go_wp2_with fail
  refine HP.out.mono ?_
  rintro e w2 ⟨A, c, rfl, hA, hR, hT2, hk2⟩
  have hs1 := hK1.size
  have hs2 := hk2.size
  have h2 := H1.out.paged hT2 hk2 (fun b hb => (rowK_of hR hb).1.1)
  have hK2 := hK1.trans (hk2.mono (fun b hb => .inl hb))
  have hb3 := (Below.refl w2.heap.size w2).alloc (Nat.le_refl _) (.cells (pgCs (pg id) A c) 51)
  have hB16 := Blk.new w2 51 (pgCs (pg id) A c)
  have hR3 := Reads.below hR hb3
  have h3 := h2.add (K' := fun b => (K b ∨ rowK A (pg id).rows.length b) ∨ b = w2.heap.size) hb3 (fun b hb => hb.imp (fun h => h) (fun e => by rw [e]; simp)) (.inl h2.ka) (.inl h2.kt)
  have hK3 := hK2.trans (Kept.of_below hb3 (fun b hb => h2.kl b (.inl hb)))
  have H3 := Lib.hid h3
  clear hT2 hk2 hA h2 hK2 hK1 h3 HP ct cg hput hlook c0 H1 hR
  go_upto_region 7 with fail
  generalize hw3 : World.alloc w2 _ = w3 at hb3 hB16 hR3 hK3 H3 ⊢
  clear hw3
  go_cut [71] from 42 to 70 (fun u wx => u = .bool (wkBad x) ∧ Below w3.heap.size w3 wx)
  case first =>
    have HR3 := Lib.hid hR3
    have c0 := hB16.cell 0
    have c1 := hB16.cell 1
    have c2 := hB16.cell 2
    have c3 := hB16.cell 3
    have c4 := hB16.cell 4
    have c5 := hB16.cell 5
    simp only [List.getElem?_toArray, List.getElem?_cons_succ, List.getElem?_cons_zero] at c0 c1 c2 c3 c4 c5
    cases hb : wkBad x with
    | true =>
      have hbad := HBAD.out hb
      have HC := Lib.hid fun (W : World) => node_check_bad hbad W A c
      have HBB := Lib.hid hb
      clear hb hbad
      go_wp2_with fail
      refine (HC.out _).mono ?_
      rintro e w4 ⟨rfl, hb4⟩
      clear c0 c1 c2 c3 c4 c5 HC
      go_wp2_with fail
      go_meet
      case rel => exact ⟨by rw [HBB.out], hb4⟩
    | false =>
      obtain ⟨⟨ks, hN⟩, hlev, d1, wr1, wr2, hkd⟩ := HGOOD.out hb
      have HC := Lib.hid (node_check (c := c) hN HMAY.out hR3)
      have HBB := Lib.hid hb
      clear hb hN
      rcases hlev with d4 | rfl <;> rcases hkd with ⟨d5, d6⟩ | ⟨d5, d6, d7, d8⟩
      all_goals
        go_wp2_with fail
        refine HC.out.mono ?_
        rintro e w4 ⟨rfl, hb4⟩
        have c0 := (hB16.below hb4 hB16.lt).cell 0
        have c1 := (hB16.below hb4 hB16.lt).cell 1
        have c4 := (hB16.below hb4 hB16.lt).cell 4
        simp only [List.getElem?_toArray, List.getElem?_cons_succ, List.getElem?_cons_zero] at c0 c1 c4
        clear HC
        go_wp2_with fail
        go_meet
        case rel => exact ⟨by rw [HBB.out], hb4⟩
  case rest =>
  obtain ⟨rfl, hb4⟩ := hcut
  obtain ⟨w4, rfl⟩ : ∃ x : World, x = wc := ⟨_, rfl⟩
  have H4 := Lib.hid (H3.out.below hb4)
  have hB4 := hB16.below hb4 hB16.lt
  have hR4 := Reads.below hR3 hb4
  have hK4 := hK3.trans (Kept.of_below hb4 (fun b hb => H3.out.kl b (.inl (.inl hb))))
  have hs3 : w2.heap.size ≤ w3.heap.size := hb3.size
  have hs4 := hb4.size
  clear hb4 hB16 hR3 hK3 H3 hb3
  cases hb : wkBad x with
  | true =>
    have hr : r = (180, s) := by
      cases x with
      | bad => have := HW.out; simp only [Option.some.injEq] at this; exact this.symm
      | leaf rs => cases hb
      | inner es => cases hb
    subst hr
    clear hb
    go_wp2_with fail
    go_ret
    exact ⟨rfl, hK4, H4.out.c.left_, fun h => by cases h⟩
  | false =>
    have hp4 := H4.out.c.xp.cell 0
    have fp4 := H4.out.c.xp.frozen 0
    simp only [List.getElem?_toArray, List.getElem?_cons_zero] at hp4
    obtain ⟨iu, hiu, hz0, hz1, hz2⟩ := info_parts u32_info
    have HO := Lib.hid H4.out.c.xg
    have hbw : base ≤ w4.heap.size := H4.out.bl
    have hpl : s.pages.length ≤ 1000 := by have := H4.out.pl; have := H4.out.sl; dsimp only at *; omega
    have HBF := Lib.hid hb
    clear hb
    go_wp2_with (at_builtin; refine wpList_append_own2 _ rfl _ _ 34 rfl base 33 iu (.int .u32 0) 1 4 Tryz.underlying34 hiu hz0 hz1 hz2 rfl (by decide) _ s.pages.length (s.pages.map u32v) rfl (HO.out.alloc _) ⟨w4.heap.size, 0, none⟩ 1 1 [u32v id] rfl rfl (blk_news (Blk.new w4 33 #[u32v id])) (fun x hx => by simp at hx; subst hx; rfl) (by unfold maxLen; omega) (by omega) (by simp; omega) ?_)
    intro v' w5 q1 q2 q3
    have hg45 := grownBy_trans' (World.grownBy_alloc w4 _ _) q2
    have hC6 := H4.out.c.pushed q1 hg45
    have hne : v.ownBlock ≠ some B.p := H4.out.c.row_ne (.inl (.inr (.inr (.inl rfl))))
    have hT6 : Turns (fun b => v.ownBlock = some b ∨ b = B.p) (fun b => v.ownBlock = some b ∨ b = B.p) w4 (w5.setCell ⟨B.p, 0, none⟩ v') := ((Turns.refl _ w4).grown hg45 (fun b hb => .inl (.inl hb))).setCell (.inl (.inr rfl)) v'
    obtain ⟨h6, hK6⟩ := H4.out.turned hT6 (fun b hb => .inl (by
      rcases hb with hb | hb
      · exact .inr (.inr hb)
      · exact .inl (.inr (.inr (.inl hb))))) hC6 (fun b hb => (q3 b hb).imp (fun h => h) (fun h => by omega)) (by have := HPL.out; simp; omega) (by have := H4.out.sl; exact this) (by have := H4.out.rl; exact this)
    have hp5 := (H4.out.c.xp.grown hg45 (fun e => hne e.symm)).cell 0
    have fp5 := (H4.out.c.xp.grown hg45 (fun e => hne e.symm)).frozen 0
    simp only [List.getElem?_toArray, List.getElem?_cons_zero] at hp5
    obtain ⟨A5, a5, rfl⟩ := row_shape q1
    have H6 := Lib.hid h6
    clear hp4 fp4 q1 q2 q3 hg45 hC6 hT6 h6 HO
    have hB6 := hB4.kept hK6 (.inr rfl)
    have hR6 : RowsAt (fun b => w1.heap.size ≤ b ∧ rowK A (pg id).rows.length b) _ A (pg id).rows := hR4.keep hK6.size (fun b hb => hK6.block b (.inl (.inr hb.2)))
    have hK6' := hK4.trans (hK6.mono (fun b hb => .inl (.inl hb)))
    have hs6 : w4.heap.size ≤ _ := hK6.size
    clear hB4 hR4 hK4 hK6 H4 hne
    cases x with
    | bad => cases HBF.out
    | leaf rs =>
      have hkd : (pg id).kind = 1 := HOK.out.1.1
      have d1 : decide (((pg id).kind : Int) = 1) = true := by rw [decide_eq_true_eq]; omega
      have d2 : (((pg id).kind : Int) == 1) = true := by rw [beq_iff_eq]; omega
      have c0 := hB6.cell 0
      simp only [List.getElem?_toArray, List.getElem?_cons_zero] at c0
      have hcase : (s.first = true ∧ (!s.first && decide (s.next ≠ id)) = false) ∨ (s.first = false ∧ ((s.next : Int) != id) = false ∧ decide ((s.next : Int) = id) = true ∧ (!s.first && decide (s.next ≠ id)) = false) ∨ (s.first = false ∧ ((s.next : Int) != id) = true ∧ decide ((s.next : Int) = id) = false ∧ (!s.first && decide (s.next ≠ id)) = true) := by
        cases s.first with
        | true => exact .inl ⟨rfl, rfl⟩
        | false =>
          by_cases e : s.next = id
          · exact .inr (.inl ⟨rfl, by simp [e], by simp [e], by simp [e]⟩)
          · exact .inr (.inr ⟨rfl, by simp; omega, by simp; omega, by simp [e]⟩)
      clear hkd
      go_upto_region 11 with fail
      generalize hw6 : World.setCell w5 _ _ = w6 at H6 hB6 hR6 hK6' hs6 ⊢
      clear hw6
      go_cut [85] from 79 to 84 (fun u wx => u = .bool (!s.first && decide (s.next ≠ id)) ∧ wx = w6)
      case first =>
        have cf := H6.out.c.xf.cell 0
        have cn := H6.out.c.xn.cell 0
        simp only [List.getElem?_toArray, List.getElem?_cons_zero] at cf cn
        rcases hcase with ⟨e1, hb⟩ | ⟨e1, d3, d4, hb⟩ | ⟨e1, d3, d4, hb⟩
        all_goals
          rw [e1] at cf
          have HB := Lib.hid hb
          clear hb e1
          go_wp2_with fail
          go_meet
          case rel => exact ⟨by rw [HB.out], rfl⟩
      case rest =>
      obtain ⟨rfl, rfl⟩ := hcut
      cases hb : (!s.first && decide (s.next ≠ id)) with
      | true =>
        have hr : r = (180, s) := by
          have := HW.out
          have h3 : s.first = false ∧ s.next ≠ id := by simpa using hb
          simp only [] at this
          split at this
          · cases this
          · first
            | (rw [if_pos h3] at this; injection this with this; exact this.symm)
            | (injection this with this; exact this.symm)
        subst hr
        clear hb
        go_wp2_with fail
        go_ret
        exact ⟨rfl, hK6', H6.out.c.left_, fun h => by cases h⟩
      | false =>
        have cf := H6.out.c.xf.cell 0
        have cn := H6.out.c.xn.cell 0
        have cr := H6.out.c.xr.cell 0
        have ff := H6.out.c.xf.frozen 0
        have fn := H6.out.c.xn.frozen 0
        have fr := H6.out.c.xr.frozen 0
        have p4 := hB6.cell 4
        have p5 := hB6.cell 5
        simp only [List.getElem?_toArray, List.getElem?_cons_succ, List.getElem?_cons_zero] at cf cn cr p4 p5
        have n1 := H6.out.c.xf.ne_ H6.out.c.xn (by decide)
        have n2 := H6.out.c.xf.ne_ H6.out.c.xr (by decide)
        have n3 := H6.out.c.xn.ne_ H6.out.c.xr (by decide)
        have n4 := H6.out.c.xf.ne_ hB6 (by decide)
        have n5 := H6.out.c.xn.ne_ hB6 (by decide)
        have n6 := H6.out.c.xr.ne_ hB6 (by decide)
        have hrl : s.rows ≤ 200000 := by have h1 := H6.out.rl; have h2 := H6.out.sl; dsimp only at h1 h2; omega
        have HBC := Lib.hid hb
        clear hb hcase c0
        go_wp2_with fail
        go_region
        have hlen : (pg id).rows.length = rs.length := by rw [HOK.out.1.2.2.1, List.length_map]
        have hC7 := H6.out.c.left (pg id).next (pg id).rows.length
        have hT7 : Turns (fun b => b = B.f ∨ b = B.n ∨ b = B.r) (fun b => b = B.f ∨ b = B.n ∨ b = B.r) wc (((wc.setCell ⟨B.f, 0, none⟩ (.bool false)).setCell ⟨B.n, 0, none⟩ (.int .u32 (pg id).next)).setCell ⟨B.r, 0, none⟩ (.int .i64 ((s.rows : Int) + ((pg id).rows.length : Int)))).drew :=
          ((((Turns.refl _ wc).setCell (p := ⟨B.f, 0, none⟩) (.inl (.inl rfl)) _).setCell (p := ⟨B.n, 0, none⟩) (.inl (.inr (.inl rfl))) _).setCell (p := ⟨B.r, 0, none⟩) (.inl (.inr (.inr rfl))) _).drew
        obtain ⟨w7, hw7⟩ : ∃ x, x = (((wc.setCell ⟨B.f, 0, none⟩ (.bool false)).setCell ⟨B.n, 0, none⟩ (.int .u32 (pg id).next)).setCell ⟨B.r, 0, none⟩ (.int .i64 ((s.rows : Int) + ((pg id).rows.length : Int)))).drew := ⟨_, rfl⟩
        rw [← hw7] at hC7 hT7 ⊢
        clear hw7
        obtain ⟨h7, hK7⟩ := H6.out.turned hT7 (fun b hb => .inl (.inl (by
          rcases hb with hb | hb | hb
          · exact .inr (.inr (.inr (.inl hb)))
          · exact .inr (.inr (.inr (.inr (.inl hb))))
          · exact .inr (.inr (.inr (.inr (.inr (.inl hb)))))))) hC7 (fun b hb => .inl hb) H6.out.pl H6.out.sl (by have h1 := HRL.out; have h2 := H6.out.sl; simp only [List.length_append, List.length_cons, List.length_nil] at *; omega)
        rw [hlen] at h7
        have hB7 := hB6.kept hK7 (.inr rfl)
        have hR7 := hR6.keep hK7.size (fun b hb => hK7.block b (.inl (.inr hb.2)))
        have hK7' := hK6'.trans (hK7.mono (fun b hb => .inl (.inl hb)))
        have hs7 := hK7.size
        have H7 := Lib.hid h7
        have HLEN := Lib.hid hlen
        have HR7 := Lib.hid hR7
        have HK := Lib.hid fun (W : World) (hb : Below w7.heap.size w7 W) (i : Nat) (hi : i < (Sp.keysR rs).length) => node_key (c := c) (known_leaf HOK.out) HMAY.out (Reads.below hR7 hb) hi
        have p5 := hB7.cell 5
        simp only [List.getElem?_toArray, List.getElem?_cons_succ, List.getElem?_cons_zero] at p5
        clear hC7 hT7 hK7 hB6 hR6 hK6' H6 h7 hlen hR7 cf cn cr ff fn fr n1 n2 n3 n4 n5 n6 p4 hrl
        go_wp2_with fail
        have hres : (rs.all (fun y => Sp.inK y.key lo hi) = true ∧ r = (0, ⟨s.seen ++ [id], (pg id).next, false, s.pages ++ [id], s.rows + rs.length⟩)) ∨ (rs.all (fun y => Sp.inK y.key lo hi) = false ∧ r = (180, s)) := by
          have := HW.out
          split at this
          · cases this
          · rw [if_neg (fun h => by have h3 := HBC.out; simp [h.1, h.2] at h3)] at this
            split at this
            · rename_i h5
              injection this with this
              exact .inl ⟨h5, this.symm⟩
            · rename_i h5
              injection this with this
              exact .inr ⟨by simpa using h5, this.symm⟩
        have HRES := Lib.hid hres
        clear hres
        go_loopw [96] (fun i wr => ∃ m : Nat, m ≤ (pg id).rows.length ∧ i = .int .i64 m ∧ (∀ t (h : t < rs.length), t < m → Sp.inK rs[t].key lo hi = true) ∧ Below w7.heap.size w7 wr) (fun i _ => (pg id).rows.length - (intOf i).toNat)
        case atStart => exact ⟨0, by omega, rfl, fun t h ht => by omega, Below.refl _ _⟩
        case round =>
          obtain ⟨m, hm, rfl, hin, hbr⟩ := hrel
          have HIN := Lib.hid hin
          have hsr := hbr.size
          clear hin
          by_cases hlt : m < (pg id).rows.length
          · have hmr : m < rs.length := by rw [← HLEN.out]; exact hlt
            have HKm := Lib.hid (HK.out wr hbr m (by simpa [Sp.keysR] using hmr))
            have hkey : (Sp.keysR rs)[m]'(by simpa [Sp.keysR] using hmr) = rs[m].key := by simp [Sp.keysR]
            rw [hkey] at HKm
            obtain ⟨q0, q1, q2, q3, q4, q5⟩ := page_cells (hB7.below hbr hB7.lt)
            have HI := Lib.hid fun (W : World) => key_in rs[m].key lo hi W
            clear hkey p5
            go_wp2_with fail
            refine HKm.out.mono ?_
            rintro e w8 ⟨rfl, hb8⟩
            have hbr8 := hbr.trans (hb8.mono hsr)
            obtain ⟨q0, q1, q2, q3, q4, q5⟩ := page_cells (hB7.below hbr8 hB7.lt)
            clear HKm hb8
            go_wp2_with fail
            refine (HI.out _).mono ?_
            rintro e w9 ⟨rfl, hw9⟩
            subst w9
            cases hik : Sp.inK rs[m].key lo hi with
            | true =>
              have HIK := Lib.hid hik
              clear hik q0 q1 q2 q3 q4 q5
              go_wp2_with fail
              go_roundw
              case rel =>
                refine ⟨m + 1, by omega, by go_num, fun t h ht => ?_, hbr8⟩
                by_cases e : t = m
                · subst e; exact HIK.out
                · exact HIN.out t h (by omega)
              case measure => simp [intOf]; omega
            | false =>
              have hr : r = (180, s) := by
                rcases HRES.out with ⟨h1, _⟩ | ⟨_, h2⟩
                · have := List.all_eq_true.1 h1 rs[m] (List.getElem_mem hmr)
                  rw [hik] at this; cases this
                · exact h2
              subst hr
              clear hik q0 q1 q2 q3 q4 q5
              go_wp2_with fail
              go_ret
              exact ⟨rfl, hK7'.trans (Kept.of_below hbr8 (fun b hb => H7.out.kl b (.inl (.inl hb)))), (H7.out.below hbr8).c.left_, fun h => by cases h⟩
          · have hr : r = (0, ⟨s.seen ++ [id], (pg id).next, false, s.pages ++ [id], s.rows + rs.length⟩) := by
              rcases HRES.out with ⟨_, h1⟩ | ⟨h2, _⟩
              · exact h1
              · have h3 : rs.all (fun y => Sp.inK y.key lo hi) = true := by
                  rw [List.all_eq_true]
                  intro y hy
                  obtain ⟨t, ht, rfl⟩ := List.getElem_of_mem hy
                  exact HIN.out t ht (by have := HLEN.out; omega)
                rw [h3] at h2; cases h2
            subst hr
            go_wp2_with fail
            go_ret
            exact ⟨rfl, hK7'.trans (Kept.of_below hbr (fun b hb => H7.out.kl b (.inl (.inl hb)))), (H7.out.below hbr).c.left_, fun _ => ⟨_, (H7.out.below hbr).less (fun b hb => .inl (.inl hb)) HKA.out HKT.out⟩⟩
    | inner es =>
      have hkd : (pg id).kind = 2 := HOK.out.1.1
      have d1 : decide (((pg id).kind : Int) = 1) = false := by rw [decide_eq_false_iff_not]; omega
      have d2 : (((pg id).kind : Int) == 1) = false := by rw [beq_eq_false_iff_ne]; omega
      have hlen : (pg id).rows.length = es.length := by rw [HOK.out.1.2.2.2.1, List.length_map]
      have HLEN := Lib.hid hlen
      have hgo : Sp.goF (Sp.walkF pg kn f) (((pg id).level : Int) - 1) lo hi true es ⟨s.seen ++ [id], s.next, s.first, s.pages ++ [id], s.rows⟩ = some r := by
        have := HW.out
        simp only [] at this
        split at this
        · cases this
        · exact this
      have HGO := Lib.hid hgo
      have HK := Lib.hid fun (W : World) (b : Nat) (hb : RowsAt (fun x => b ≤ x ∧ rowK A (pg id).rows.length x) W A (pg id).rows) (i : Nat) (hi : i < (es.map (·.key)).length) => node_key (c := c) (known_inner HOK.out) HMAY.out hb hi
      have HL8 := Lib.hid (HGOOD.out HBF.out).2.2.1
      obtain ⟨_, _, _, wr1, wr2, _⟩ := HGOOD.out HBF.out
      have h8 : ((pg id).level : Int) < 8 := by have := of_decide_eq_false HL8.out; omega
      have wr3 : wrap64 (((pg id).level : Int) - 1) = ((pg id).level : Int) - 1 := by unfold wrap64; omega
      clear hkd hlen hgo
      have c0 := hB6.cell 0
      have p5 := hB6.cell 5
      simp only [List.getElem?_toArray, List.getElem?_cons_succ, List.getElem?_cons_zero] at c0 p5
      go_wp2_with fail
      generalize hw6 : World.setCell w5 _ _ = w6 at H6 hB6 hR6 hK6' hs6 ⊢
      clear hw6
      go_loopw [96] (fun i wr => ∃ (m : Nat) (s' : Sp.WSt) (v' : Value), m ≤ es.length ∧ i = .int .i64 m ∧ Sp.goF (Sp.walkF pg kn f) (((pg id).level : Int) - 1) lo hi (decide (m = 0)) (es.drop m) s' = some r ∧
        WkIn ly pg (fun b => (K b ∨ rowK A (pg id).rows.length b) ∨ b = w2.heap.size) gt root ga gd gl gp n B base v' s' wr ∧ Kept (fun b => (K b ∨ rowK A (pg id).rows.length b) ∨ b = w2.heap.size) w6 wr) (fun i _ => es.length - (intOf i).toNat)
      case atStart => exact ⟨0, _, _, by omega, rfl, by simpa using HGO.out, H6.out, Kept.refl _ _⟩
      case round =>
        obtain ⟨m, s', v', hm, rfl, hgo, hin, hk⟩ := hrel
        have hBr := hB6.kept hk (.inr rfl)
        have hRr := hR6.keep hk.size (fun b hb => hk.block b (.inl (.inr hb.2)))
        have hsr := hk.size
        by_cases hlt : m < es.length
        · have HAT := Lib.hid (Sp.go_at hlt hgo)
          have hmp : m < (pg id).rows.length := by rw [HLEN.out]; exact hlt
          have HKm := Lib.hid (HK.out wr _ hRr m (by simpa using hlt))
          have hkey : (es.map (·.key))[m]'(by simpa using hlt) = es[m].key := by simp
          rw [hkey] at HKm
          obtain ⟨q0, q1, q2, q3, q4, q5⟩ := page_cells hBr
          have HIN := Lib.hid hin
          have HKK := Lib.hid hk
          have HBR := Lib.hid hBr
          have HRR := Lib.hid hRr
          clear hkey p5 hgo hin hk hBr hRr
          go_wp2_with fail
          refine HKm.out.mono ?_
          rintro e w8 ⟨rfl, hb8⟩
          have HB8 := Lib.hid (HBR.out.below hb8 HBR.out.lt)
          have HR8 := Lib.hid (Reads.below HRR.out hb8)
          obtain ⟨q0, q1, q2, q3, q4, q5⟩ := page_cells HB8.out
          clear HKm
          go_upto_if 119 with fail
          go_cut [20, 21] from 119 to 126 (fun _ u wx => u = str (Sp.hiK es hi m) ∧ Below w8.heap.size w8 wx)
          case first =>
            by_cases hl : m + 1 < es.length
            · have hl' : m + 1 < (pg id).rows.length := by rw [HLEN.out]; exact hl
              have HK2 := Lib.hid (HK.out w8 _ HR8.out (m + 1) (by simpa using hl))
              have hkey : (es.map (·.key))[m + 1]'(by simpa using hl) = Sp.hiK es hi m := by unfold Sp.hiK; rw [List.getElem?_eq_getElem hl]; simp
              rw [hkey] at HK2
              clear hkey
              go_wp2_with fail
              refine HK2.out.mono ?_
              rintro e w9 ⟨rfl, hb9⟩
              clear HK2 q0 q1 q2 q3 q4 q5
              go_wp2_with fail
              go_meet
              case rel => exact ⟨rfl, hb9⟩
            · have hl' : ¬ m + 1 < (pg id).rows.length := by rw [HLEN.out]; exact hl
              have hkey : hi = Sp.hiK es hi m := by unfold Sp.hiK; rw [List.getElem?_eq_none (by omega)]; rfl
              have HKE := Lib.hid hkey
              clear hkey
              go_wp2_with fail
              go_meet
              case rel => exact ⟨by rw [← HKE.out], Below.refl _ _⟩
          case rest =>
          obtain ⟨rfl, hb9⟩ := hcut
          obtain ⟨w9, rfl⟩ : ∃ x : World, x = wc := ⟨_, rfl⟩
          have hb89 := hb8.trans (hb9.mono hb8.size)
          clear hb9 q0 q1 q2 q3 q4 q5 HB8 HR8 hb8
          go_upto_if 128 with fail
          go_cut [19] from 128 to 129 (fun u wx => u = str (Sp.loK es lo m) ∧ wx = w9)
          case first =>
            rcases Nat.eq_zero_or_pos m with h0 | h0
            · have e1 : ((m : Int) == 0) = true := by rw [beq_iff_eq]; omega
              simp only [e1]
              have HLK := Lib.hid (show lo = Sp.loK es lo m by unfold Sp.loK; rw [if_pos h0])
              clear e1 h0
              go_wp2_with fail
              go_meet
              case rel => exact ⟨by rw [← HLK.out], rfl⟩
            · have d5 : decide ((m : Int) = 0) = false := by rw [decide_eq_false_iff_not]; omega
              have d6 : ((m : Int) == 0) = false := by rw [beq_eq_false_iff_ne]; omega
              have HLK := Lib.hid (show es[m].key = Sp.loK es lo m by unfold Sp.loK; rw [if_neg (by omega), List.getElem?_eq_getElem hlt]; rfl)
              go_wp2_with fail
              go_meet
              case rel => exact ⟨by rw [← HLK.out], rfl⟩
          case rest =>
          obtain ⟨rfl, rfl⟩ := hcut
          have hR9 := Reads.below HRR.out hb89
          have HB9 := Lib.hid (HBR.out.below hb89 HBR.out.lt)
          obtain ⟨b, o, hA, _, hbl, hcell⟩ := RowsAt.row hR9 hmp
          have hrow : (pg id).rows[m] = es[m].bytes := by simp [HOK.out.1.2.2.2.1]
          rw [hrow] at hcell
          subst hA
          have HD := Lib.hid fun (W : World) => row_decodeEntry es[m] (HOK.out.1.2.2.2.2 _ (List.getElem_mem hlt)) W
          obtain ⟨q0, q1, q2, q3, q4, q5⟩ := page_cells HB9.out
          clear hrow hR9
          go_wp2_with fail
          refine (HD.out _).mono ?_
          rintro e w10 ⟨rfl, hb10⟩
          have hb11 := hb89.trans ((hb10.mono hb89.size).alloc (Nat.le_trans hb89.size hb10.size) (.cells (enCs es[m]).toArray 66))
          have hE := Blk.new w10 66 (enCs es[m]).toArray
          clear HD hcell q0 q1 q2 q3 q4 q5 HB9
          go_upto_region 27 with fail
          change Code.wp _ _ _ _ (w10.alloc (.cells (enCs es[m]).toArray 66))
          generalize hw11 : World.alloc w10 _ = w11 at hb11 hE ⊢
          clear hw11
          go_cut [147] from 139 to 146 (fun u wx => u = .bool (decide (m ≠ 0) && !Sp.inK es[m].key lo hi) ∧ wx = w11)
          case first =>
            have HI := Lib.hid fun (W : World) => key_in (Sp.loK es lo m) lo hi W
            rcases Nat.eq_zero_or_pos m with h0 | h0
            · have e1 : decide ((0 : Int) < (m : Int)) = false := by rw [decide_eq_false_iff_not]; omega
              have e2 : decide (0 < m) = false := by rw [decide_eq_false_iff_not]; omega
              have HLK := Lib.hid (show (decide (m ≠ 0) && !Sp.inK es[m].key lo hi) = false by simp [h0])
              clear h0
              go_wp2_with fail
              go_meet
              case rel => exact ⟨by rw [HLK.out], rfl⟩
            · have e1 : decide ((0 : Int) < (m : Int)) = true := by rw [decide_eq_true_eq]; omega
              have hlk : Sp.loK es lo m = es[m].key := by unfold Sp.loK; rw [if_neg (by omega), List.getElem?_eq_getElem hlt]; rfl
              have HLK := Lib.hid (show (decide (m ≠ 0) && !Sp.inK es[m].key lo hi) = !Sp.inK (Sp.loK es lo m) lo hi by rw [hlk]; simp; omega)
              clear hlk
              go_wp2_with fail
              refine (HI.out _).mono ?_
              rintro e w12 ⟨rfl, hw12⟩
              subst w12
              go_wp2_with fail
              go_meet
              case rel => exact ⟨by rw [HLK.out], rfl⟩
          case rest =>
          obtain ⟨rfl, rfl⟩ := hcut
          cases hb : (decide (m ≠ 0) && !Sp.inK es[m].key lo hi) with
          | true =>
            have hb' : m ≠ 0 ∧ Sp.inK es[m].key lo hi = false := by simpa using hb
            have hr : r = (180, s') := by
              rcases HAT.out with ⟨_, _, h3⟩ | ⟨h3, _⟩
              · exact h3
              · exact absurd hb' h3
            subst hr
            clear hb
            go_wp2_with fail
            go_ret
            exact ⟨rfl, (hK6'.trans (HKK.out.mono (fun b hb => .inl (.inl hb)))).trans (Kept.of_below hb11 (fun b hb => HIN.out.kl b (.inl (.inl hb)))), (HIN.out.below hb11).c.left_, fun h => by cases h⟩
          | false =>
            obtain ⟨r', hw', hr'⟩ : ∃ r', Sp.walkF pg kn f s' es[m].child (((pg id).level : Int) - 1) (Sp.loK es lo m) (Sp.hiK es hi m) = some r' ∧ ((r'.1 ≠ 0 ∧ r = r') ∨ (r'.1 = 0 ∧ Sp.goF (Sp.walkF pg kn f) (((pg id).level : Int) - 1) lo hi (decide (m + 1 = 0)) (es.drop (m + 1)) r'.2 = some r)) := by
              rcases HAT.out with ⟨h1, h2, _⟩ | ⟨_, h3⟩
              · have : (decide (m ≠ 0) && !Sp.inK es[m].key lo hi) = true := by simp [h1, h2]
                rw [hb] at this; cases this
              · exact h3
            have hin11 := HIN.out.below hb11
            have HC := Lib.hid (IH _ v' s' es[m].child (((pg id).level : Int) - 1) (Sp.loK es lo m) (Sp.hiK es hi m) r' _ (by omega) (by omega) hw' hin11)
            have HR' := Lib.hid hr'
            have cw := hin11.c.xw.cell 0
            have e1 := hE.cell 1
            have l1 := (HBR.out.below hb11 HBR.out.lt).cell 1
            simp only [List.getElem?_toArray, List.getElem?_cons_succ, List.getElem?_cons_zero] at cw e1 l1
            clear hb hw' hr' HAT
            go_wp2_with fail
            refine HC.out.mono ?_
            rintro e w12 ⟨rfl, hk12, hleft, hin12⟩
            obtain ⟨n', s''⟩ := r'
            have hKf := (HKK.out.trans (Kept.of_below hb11 HIN.out.kl)).trans hk12
            have hin12' := Lib.hid hin12
            clear HC cw e1 l1 hin11 hin12 hk12 hE hb11 HIN
            by_cases hn : n' = 0
            · subst hn
              obtain ⟨v'', h12⟩ := hin12'.out rfl
              have hgo' : Sp.goF (Sp.walkF pg kn f) (((pg id).level : Int) - 1) lo hi (decide (m + 1 = 0)) (es.drop (m + 1)) s'' = some r := by
                rcases HR'.out with ⟨h1, _⟩ | ⟨_, h2⟩
                · exact absurd rfl h1
                · exact h2
              have HG' := Lib.hid hgo'
              have H12 := Lib.hid h12
              clear hgo' h12
              go_wp2_with fail
              go_roundw
              case rel => exact ⟨m + 1, s'', v'', hlt, by go_num, HG'.out, H12.out, hKf⟩
              case measure => simp [intOf]; omega
            · have hr : r = (n', s'') := by
                rcases HR'.out with ⟨_, h1⟩ | ⟨h1, _⟩
                · exact h1
                · exact absurd h1 hn
              have d5 : decide ((n' : Int) = 0) = false := by rw [decide_eq_false_iff_not]; omega
              have d6 : ((n' : Int) != 0) = true := by simp; omega
              subst hr
              go_wp2_with fail
              go_ret
              exact ⟨rfl, hK6'.trans (hKf.mono (fun b hb => .inl (.inl hb))), hleft, fun h => absurd h hn⟩
        · have hme : m = es.length := by omega
          subst hme
          have hr : r = (0, s') := by
            rw [List.drop_length] at hgo
            simp only [Sp.goF, Option.some.injEq] at hgo
            exact hgo.symm
          subst hr
          have HIN := Lib.hid hin
          have HL := Lib.hid (show (pg id).rows.length = es.length from HLEN.out)
          clear hin hgo
          rw [HL.out]
          go_wp2_with fail
          go_ret
          exact ⟨rfl, hK6'.trans (hk.mono (fun b hb => .inl (.inl hb))), HIN.out.c.left_, fun _ => ⟨v', HIN.out.less (fun b hb => .inl (.inl hb)) HKA.out HKT.out⟩⟩
end Go.Proofs.YtafopojibpifoaaGreat

/- The walk of package tree: Check. -/
namespace Go.Proofs.YtafopojibpifoaaGreat
open Go.RowKit Go.Conc

theorem wk_all {ly : Ly} {pg : Nat → Sp.Pg} {kn : Nat → Option Sp.Kn} (hkn : Known ly pg kn) (gt root ga gd gl gp n : Nat) (B : Bx) (base : Nat) : ∀ f, WkSpec ly pg kn gt root ga gd gl gp n B base f
  | 0 => fun K v s id level lo hi r w _ _ hw _ => by cases hw
  | f + 1 => wk_step hkn (wk_all hkn gt root ga gd gl gp n B base f)

/-- What Check hands back. -/
def ChkPost (ly : Ly) (pg : Nat → Sp.Pg) (K : Foot) (w : World) (gt root ga gd gl gp n : Nat) (er : Nat) (s : Sp.WSt) (e : Ending) (w' : World) : Prop :=
  Kept K w w' ∧ ((er ≠ 0 ∧ e = .returned (.tuple #[.slice none 0 0, .int .i64 0, .int .i64 er])) ∨ (er = 0 ∧ ∃ v, e = .returned (.tuple #[v, .int .i64 s.rows, .int .i64 0]) ∧ w'.ownsRow w.heap.size 33 1 v s.pages.length (s.pages.map u32v) ∧ TrAt ly pg K w' gt root ga gd gl gp n))

abbrev bxOf (g : Nat) : Bx := ⟨g + 1 + 1 + 1 + 1, g, g + 1, g + 1 + 1 + 1 + 1 + 1 + 1, g + 1 + 1 + 1 + 1 + 1, g + 1 + 1, g + 1 + 1 + 1 + 1 + 1 + 1 + 1, g + 1 + 1 + 1⟩
/-- The boxes, as they are made. -/
def chkW (gt : Nat) (w : World) : World :=
  (((((((w.alloc (.cells #[ptr gt] 29)).alloc (.cells #[.slice none 0 0] 34)).alloc (.cells #[.int .i64 0] 3)).alloc (.map #[] 0)).alloc (.cells #[.map (some (w.heap.size + 1 + 1 + 1))] 82)).alloc (.cells #[.int .u32 0] 33)).alloc (.cells #[.bool true] 4)).alloc (.cells #[(bxOf w.heap.size).fn] 83)
theorem chkW_c (gt : Nat) (w : World) : WkC (bxOf w.heap.size) gt (w.heap.size + 1 + 1 + 1 + 1 + 1 + 1 + 1 + 1) (.slice none 0 0) Sp.st0 (chkW gt w) ∧ Below w.heap.size w (chkW gt w) ∧ (chkW gt w).heap.size = w.heap.size + 1 + 1 + 1 + 1 + 1 + 1 + 1 + 1 := by
  unfold chkW
  have key : ∀ (W : World) (g : Nat) (hg : W.heap.size = g) (t : TypeId) (cs : Array Value), Blk (W.alloc (.cells cs t)) g t cs := fun W g hg t cs => hg ▸ Blk.new W t cs
  obtain ⟨u1, hu1⟩ : ∃ x, x = w.alloc (.cells #[ptr gt] 29) := ⟨_, rfl⟩
  have z1 : u1.heap.size = w.heap.size + 1 := by rw [hu1]; simp
  have b1 : Blk u1 w.heap.size 29 #[ptr gt] := by rw [hu1]; exact key w _ rfl _ _
  have l1 : Below w.heap.size w u1 := by rw [hu1]; exact (Below.refl _ w).alloc (Nat.le_refl _) _
  rw [← hu1]
  obtain ⟨u2, hu2⟩ : ∃ x, x = u1.alloc (.cells #[.slice none 0 0] 34) := ⟨_, rfl⟩
  have z2 : u2.heap.size = w.heap.size + 1 + 1 := by rw [hu2]; simp [z1]
  have b2 : Blk u2 (w.heap.size + 1) 34 #[.slice none 0 0] := by rw [hu2]; exact key u1 _ z1 _ _
  have b1 : Blk u2 w.heap.size 29 #[ptr gt] := by rw [hu2]; exact b1.alloc _
  have l2 : Below w.heap.size w u2 := by rw [hu2]; exact l1.alloc l1.size _
  rw [← hu2]
  obtain ⟨u3, hu3⟩ : ∃ x, x = u2.alloc (.cells #[.int .i64 0] 3) := ⟨_, rfl⟩
  have z3 : u3.heap.size = w.heap.size + 1 + 1 + 1 := by rw [hu3]; simp [z2]
  have b3 : Blk u3 (w.heap.size + 1 + 1) 3 #[.int .i64 0] := by rw [hu3]; exact key u2 _ z2 _ _
  have b1 : Blk u3 w.heap.size 29 #[ptr gt] := by rw [hu3]; exact b1.alloc _
  have b2 : Blk u3 (w.heap.size + 1) 34 #[.slice none 0 0] := by rw [hu3]; exact b2.alloc _
  have l3 : Below w.heap.size w u3 := by rw [hu3]; exact l2.alloc l2.size _
  rw [← hu3]
  obtain ⟨u4, hu4⟩ : ∃ x, x = u3.alloc (.map #[] 0) := ⟨_, rfl⟩
  have z4 : u4.heap.size = w.heap.size + 1 + 1 + 1 + 1 := by rw [hu4]; simp [z3]
  have m4 : USet Tryz.prog 33 4 u4 (w.heap.size + 1 + 1 + 1) 0 [] := by rw [hu4, ← z3]; exact USet.made u3
  have b1 : Blk u4 w.heap.size 29 #[ptr gt] := by rw [hu4]; exact b1.alloc _
  have b2 : Blk u4 (w.heap.size + 1) 34 #[.slice none 0 0] := by rw [hu4]; exact b2.alloc _
  have b3 : Blk u4 (w.heap.size + 1 + 1) 3 #[.int .i64 0] := by rw [hu4]; exact b3.alloc _
  have l4 : Below w.heap.size w u4 := by rw [hu4]; exact l3.alloc l3.size _
  rw [← hu4]
  have v5 := key u4 _ z4 82 #[.map (some (w.heap.size + 1 + 1 + 1))]
  obtain ⟨u5, hu5⟩ : ∃ x, x = u4.alloc (.cells #[.map (some (w.heap.size + 1 + 1 + 1))] 82) := ⟨_, rfl⟩
  have z5 : u5.heap.size = w.heap.size + 1 + 1 + 1 + 1 + 1 := by rw [hu5]; simp [z4]
  rw [← hu5] at v5
  have b1 : Blk u5 w.heap.size 29 #[ptr gt] := by rw [hu5]; exact b1.alloc _
  have b2 : Blk u5 (w.heap.size + 1) 34 #[.slice none 0 0] := by rw [hu5]; exact b2.alloc _
  have b3 : Blk u5 (w.heap.size + 1 + 1) 3 #[.int .i64 0] := by rw [hu5]; exact b3.alloc _
  have m5 : USet Tryz.prog 33 4 u5 (w.heap.size + 1 + 1 + 1) 0 [] := by rw [hu5]; exact m4.alloc _
  have l5 : Below w.heap.size w u5 := by rw [hu5]; exact l4.alloc l4.size _
  rw [← hu5]
  have v6 := key u5 _ z5 33 #[.int .u32 0]
  have v7 := key (u5.alloc (.cells #[.int .u32 0] 33)) (w.heap.size + 1 + 1 + 1 + 1 + 1 + 1) (by simp [z5]) 4 #[.bool true]
  have v8 := key ((u5.alloc (.cells #[.int .u32 0] 33)).alloc (.cells #[.bool true] 4)) (w.heap.size + 1 + 1 + 1 + 1 + 1 + 1 + 1) (by simp [z5]) 83 #[(bxOf w.heap.size).fn]
  have l6 := l5.alloc l5.size (.cells #[.int .u32 0] 33)
  have l7 := l6.alloc l6.size (.cells #[.bool true] 4)
  have l8 := l7.alloc l7.size (.cells #[(bxOf w.heap.size).fn] 83)
  refine ⟨⟨((v5.alloc _).alloc _).alloc _, ((b1.alloc _).alloc _).alloc _, ((b2.alloc _).alloc _).alloc _, v7.alloc _, (v6.alloc _).alloc _, ((b3.alloc _).alloc _).alloc _, v8, ((m5.alloc _).alloc _).alloc _, World.ownsRow_nil _ _ _ _, fun b hb => ?_⟩, l8, by simp [z5]⟩
  rcases hb with (hb | hb | hb | hb | hb | hb | hb) | hb <;> (dsimp only at hb; omega)

set_option maxRecDepth 100000 in
set_option maxHeartbeats 8000000 in
theorem tree_check {ly : Ly} {pg : Nat → Sp.Pg} {kn : Nat → Option Sp.Kn} (hkn : Known ly pg kn) {K : Foot} {w : World} {gt root ga gd gl gp n : Nat} (h : TrAt ly pg K w gt root ga gd gl gp n) {f er : Nat} {s : Sp.WSt} (hw : Sp.walkF pg kn f Sp.st0 root (-1) [] [] = some (er, s)) (hnx : er = 0 → s.next = 0) :
    Calls Tryz.prog 11 #[ptr gt] w (ChkPost ly pg K w gt root ga gd gl gp n er s) := by
  have hmm := @run_makeMap Tryz.prog
  have HN := Lib.hid fun (W : World) (hB : Blk W gt 86 #[ptr ga, .int .u32 root]) => tree_none hB
  have HT := Lib.hid h.tree
  have hgl := h.tree.lt
  obtain ⟨hc8, hb8, hz8⟩ := chkW_c gt w
  have h8 : WkIn ly pg K gt root ga gd gl gp n (bxOf w.heap.size) (w.heap.size + 1 + 1 + 1 + 1 + 1 + 1 + 1 + 1) (.slice none 0 0) Sp.st0 (chkW gt w) := by
    refine ⟨hc8, h.more hb8 (fun b hb => hb.imp (fun h => h) (fun hf => ⟨?_, hc8.lt hf⟩)) (.inl h.ac.k) (.inl h.k), fun b hb hf => ?_, h.ac.k, h.k, by simp [Sp.st0], by simp [Sp.st0], by simp [Sp.st0], by omega⟩
    · rcases hf with (hb | hb | hb | hb | hb | hb | hb) | hb | hb
      all_goals first | (dsimp only at hb; omega) | (simp [Value.ownBlock] at hb)
    · have h1 := h.lt b hb
      rcases hf with (hb | hb | hb | hb | hb | hb | hb) | hb | hb
      all_goals first | (dsimp only at hb; omega) | (simp [Value.ownBlock] at hb)
  have H8 := Lib.hid h8
  have HW := Lib.hid (wk_all hkn gt root ga gd gl gp n (bxOf w.heap.size) (w.heap.size + 1 + 1 + 1 + 1 + 1 + 1 + 1 + 1) f K _ _ root (-1) [] [] (er, s) (chkW gt w).drew (by omega) (by omega) hw (h8.below (Below.refl _ _).drew))
  have HK8 := Lib.hid (Kept.of_below hb8 h.lt)
  have HSEP := Lib.hid h8.sep
  clear hc8 h8
  go_enter Tryz.func11, Tryz.ntmps11
  go_wp2_with fail
  have hb3 := ((((Below.refl w.heap.size w).alloc (Nat.le_refl _) (.cells #[ptr gt] 29)).alloc (by simp) (.cells #[.slice none 0 0] 34)).alloc (by simp; omega) (.cells #[.int .i64 0] 3))
  refine (HN.out _ (HT.out.below hb3 hgl)).mono ?_
  rintro e w1 ⟨rfl, hw1⟩
  subst w1
  clear hb3
  go_wp2_with fail
  change Code.wp _ _ _ _ (chkW gt w)
  generalize hw8 : chkW gt w = w8 at hb8 hz8 H8 HW HK8 ⊢
  clear hw8 hmm
  have ct := H8.out.c.xt.cell 0
  have cw := H8.out.c.xw.cell 0
  have cr := H8.out.tr.cells.2.1
  simp only [List.getElem?_toArray, List.getElem?_cons_zero] at ct cw
  have hS := Lib.hid (show w8.drew.cell? ⟨w.heap.size, 0, none⟩ = some (ptr gt) ∧ w8.drew.cell? ⟨w.heap.size + 1 + 1 + 1 + 1 + 1 + 1 + 1, 0, none⟩ = some (bxOf w.heap.size).fn ∧ w8.drew.cell? ⟨gt, 1, none⟩ = some (.int .u32 root) from ⟨ct, cw, cr⟩)
  clear ct cw cr
  refine R_begin (fun W => W.cell? ⟨w.heap.size, 0, none⟩ = some (ptr gt) ∧ W.cell? ⟨w.heap.size + 1 + 1 + 1 + 1 + 1 + 1 + 1, 0, none⟩ = some (bxOf w.heap.size).fn ∧ W.cell? ⟨gt, 1, none⟩ = some (.int .u32 root)) (fun j => decide (5 ≤ j)) rfl ?_
  refine R_tk 0 14 hS.out ?_
  simp only [List.setIfInBounds_toArray, List.set_cons_zero, List.set_cons_succ]
  refine R_run 1 15 (v := ptr gt) (w' := w8.drew) rfl rfl (by rfl) (by kernel_rfl) ?_ (fun _ => hS.out) ?_
  · have hSw := hS.out; go_simp
  simp only [List.setIfInBounds_toArray, List.set_cons_zero, List.set_cons_succ]
  refine R_run 2 16 (v := ptr gt) (w' := w8.drew) rfl rfl (by rfl) (by kernel_rfl) ?_ (fun _ => hS.out) ?_
  · have hSw := hS.out; go_simp
  simp only [List.setIfInBounds_toArray, List.set_cons_zero, List.set_cons_succ]
  refine R_run 3 17 (v := .pointer (some ⟨gt, 1, none⟩)) (w' := w8.drew) rfl rfl (by rfl) (by kernel_rfl) ?_ (fun _ => hS.out) ?_
  · have hSw := hS.out; go_simp
  simp only [List.setIfInBounds_toArray, List.set_cons_zero, List.set_cons_succ]
  refine R_run 4 18 (v := .int .u32 root) (w' := w8.drew) rfl rfl (by rfl) (by kernel_rfl) ?_ (fun _ => hS.out) ?_
  · have hSw := hS.out; go_simp
  simp only [List.setIfInBounds_toArray, List.set_cons_zero, List.set_cons_succ]
  refine R_call 5 19 (w' := w8.drew) rfl rfl (by rfl) (by kernel_rfl) ?_ HW.out ?_
  · go_simp
  rintro e w9 ⟨he, hk9, hleft, hin9⟩
  refine ⟨_, he, fun h => (nomatch h), ?_⟩
  simp only [List.setIfInBounds_toArray, List.set_cons_zero, List.set_cons_succ]
  refine R_run 6 9 (v := .int .i64 er) (w' := w9) rfl rfl (by rfl) (by kernel_rfl) ?_ (fun h => (nomatch h)) ?_
  · go_simp
  simp only [List.setIfInBounds_toArray, List.set_cons_zero, List.set_cons_succ]
  refine R_done (by kernel_rfl) ?_ _
  rename_i K9 hK9
  refine hK9 _ _ ?_
  clear hK9 hS HW
  have hkk : Kept K w w9 := HK8.out.trans ⟨hk9.os, hk9.tape, hk9.output, hk9.size, hk9.block⟩
  have hp1 : ∀ b, K b → b ≠ w.heap.size + 1 ∧ b ≠ w.heap.size + 1 + 1 := fun b hb => ⟨fun e => HSEP.out b hb (.inl (.inr (.inr (.inl e)))), fun e => HSEP.out b hb (.inl (.inr (.inr (.inr (.inr (.inr (.inl e)))))))⟩
  have hws : w.heap.size + 1 + 1 < w9.heap.size := by
    obtain ⟨_, x, hx⟩ := hleft
    exact hx.lt
  by_cases her : er = 0
  · subst her
    obtain ⟨v, hin⟩ := hin9 rfl
    have hn0 := hnx rfl
    have hxn := hin.c.xn
    rw [hn0] at hxn
    have cn := hxn.cell 0
    simp only [List.getElem?_toArray, List.getElem?_cons_zero] at cn
    have HIN := Lib.hid hin
    have HKK := Lib.hid hkk
    clear hin hkk hin9 hleft hk9 hxn hn0 hnx HK8 H8 hb8 hz8
    obtain ⟨A, c, rfl⟩ := row_shape HIN.out.c.xg
    have hxp := HIN.out.c.xp
    have hxr := HIN.out.c.xr
    have cp := hxp.cell 0
    have fp := hxp.frozen 0
    have cr := hxr.cell 0
    simp only [List.getElem?_toArray, List.getElem?_cons_zero] at cp cr
    have hp2 : Blk (w9.drew.setCell ⟨w.heap.size + 1, 0, none⟩ (.slice A s.pages.length c)) (w.heap.size + 1) 34 #[.slice A s.pages.length c] := hxp.drew.set_ 0 _
    have hr2 : Blk (w9.drew.setCell ⟨w.heap.size + 1, 0, none⟩ (.slice A s.pages.length c)) (w.heap.size + 1 + 1) 3 #[.int .i64 s.rows] := hxr.drew.far (p := ⟨w.heap.size + 1, 0, none⟩) (by show w.heap.size + 1 + 1 ≠ w.heap.size + 1; omega) _
    have hp3 : Blk ((w9.drew.setCell ⟨w.heap.size + 1, 0, none⟩ (.slice A s.pages.length c)).setCell ⟨w.heap.size + 1 + 1, 0, none⟩ (.int .i64 s.rows)) (w.heap.size + 1) 34 #[.slice A s.pages.length c] := hp2.far (p := ⟨w.heap.size + 1 + 1, 0, none⟩) (by show w.heap.size + 1 ≠ w.heap.size + 1 + 1; omega) _
    have hr3 : Blk ((w9.drew.setCell ⟨w.heap.size + 1, 0, none⟩ (.slice A s.pages.length c)).setCell ⟨w.heap.size + 1 + 1, 0, none⟩ (.int .i64 s.rows)) (w.heap.size + 1 + 1) 3 #[.int .i64 s.rows] := hr2.set_ 0 _
    have cp2 := hp2.cell 0
    have cr2 := hr2.cell 0
    have fr2 := hr2.frozen 0
    have cp3 := hp3.cell 0
    have cr3 := hr3.cell 0
    simp only [List.getElem?_toArray, List.getElem?_cons_zero] at cp2 cr2 cp3 cr3
    have H1 := Lib.hid (show w9.drew.cell? ⟨w.heap.size + 1, 0, none⟩ = some (.slice A s.pages.length c) ∧ w9.drew.cell? ⟨w.heap.size + 1 + 1, 0, none⟩ = some (.int .i64 s.rows) from ⟨cp, cr⟩)
    have H2 := Lib.hid (show (w9.drew.setCell ⟨w.heap.size + 1, 0, none⟩ (.slice A s.pages.length c)).cell? ⟨w.heap.size + 1, 0, none⟩ = some (.slice A s.pages.length c) ∧ (w9.drew.setCell ⟨w.heap.size + 1, 0, none⟩ (.slice A s.pages.length c)).cell? ⟨w.heap.size + 1 + 1, 0, none⟩ = some (.int .i64 s.rows) from ⟨cp2, cr2⟩)
    have H3 := Lib.hid (show ((w9.drew.setCell ⟨w.heap.size + 1, 0, none⟩ (.slice A s.pages.length c)).setCell ⟨w.heap.size + 1 + 1, 0, none⟩ (.int .i64 s.rows)).cell? ⟨w.heap.size + 1, 0, none⟩ = some (.slice A s.pages.length c) ∧ ((w9.drew.setCell ⟨w.heap.size + 1, 0, none⟩ (.slice A s.pages.length c)).setCell ⟨w.heap.size + 1 + 1, 0, none⟩ (.int .i64 s.rows)).cell? ⟨w.heap.size + 1 + 1, 0, none⟩ = some (.int .i64 s.rows) from ⟨cp3, cr3⟩)
    have frr := hxr.frozen 0
    have cp4 := (show Blk (w9.setCell ⟨w.heap.size + 1, 0, none⟩ (.slice A s.pages.length c)) (w.heap.size + 1) 34 #[.slice A s.pages.length c] from hxp.set_ 0 _).cell 0
    have cr4 := (show Blk ((w9.setCell ⟨w.heap.size + 1, 0, none⟩ (.slice A s.pages.length c)).setCell ⟨w.heap.size + 1 + 1, 0, none⟩ (.int .i64 s.rows)) (w.heap.size + 1 + 1) 3 #[.int .i64 s.rows] from (hxr.far (p := ⟨w.heap.size + 1, 0, none⟩) (by show w.heap.size + 1 + 1 ≠ w.heap.size + 1; omega) _).set_ 0 _).cell 0
    simp only [List.getElem?_toArray, List.getElem?_cons_zero] at cp4 cr4
    have HFIN : Hid (ChkPost ly pg K w gt root ga gd gl gp n 0 s (.returned (.tuple #[.slice A s.pages.length c, .int .i64 s.rows, .int .i64 0])) ((w9.drew.setCell ⟨w.heap.size + 1, 0, none⟩ (.slice A s.pages.length c)).setCell ⟨w.heap.size + 1 + 1, 0, none⟩ (.int .i64 s.rows))) := Lib.hid (by
      have hT : Turns (fun b => b = w.heap.size + 1 ∨ b = w.heap.size + 1 + 1) (fun b => b = w.heap.size + 1 ∨ b = w.heap.size + 1 + 1) w9 ((w9.drew.setCell ⟨w.heap.size + 1, 0, none⟩ (.slice A s.pages.length c)).setCell ⟨w.heap.size + 1 + 1, 0, none⟩ (.int .i64 s.rows)) := (((Turns.refl _ w9).drew).setCell (p := ⟨w.heap.size + 1, 0, none⟩) (.inl (.inl rfl)) _).setCell (p := ⟨w.heap.size + 1 + 1, 0, none⟩) (.inl (.inr rfl)) _
      have hkl := HIN.out.kl
      refine ⟨⟨HKK.out.os, HKK.out.tape, HKK.out.output, by have := HKK.out.size; simpa using this, fun b hb => (hT.block b (hkl b hb) (fun e => e.elim (hp1 b hb).1 (hp1 b hb).2)).trans (HKK.out.block b hb)⟩, .inr ⟨rfl, _, rfl, ?_, ?_⟩⟩
      · refine row_keep' (row_mono HIN.out.c.xg (by omega)) (fun b hb => hT.block b (HIN.out.c.xg.lt b hb).2 (fun e => ?_))
        have := (HIN.out.c.xg.lt b hb).1
        rcases e with e | e <;> omega
      · refine (HIN.out.tr.go hT (fun b hb => .inl ⟨.inr ?_, fun e => ?_, fun e => ?_⟩) (fun b hb => .inl (.inl hb)) HIN.out.ka HIN.out.kt)
        · rcases hb with hb | hb
          · exact .inl (.inr (.inr (.inl hb)))
          · exact .inl (.inr (.inr (.inr (.inr (.inr (.inl hb))))))
        · rcases hb with hb | hb
          · exact (hp1 ga HIN.out.ka).1 (e ▸ hb)
          · exact (hp1 ga HIN.out.ka).2 (e ▸ hb)
        · rcases hb with hb | hb
          · exact (hp1 gt HIN.out.kt).1 (e ▸ hb)
          · exact (hp1 gt HIN.out.kt).2 (e ▸ hb))
    clear hxp hxr hp2 hr2 hp3 hr3 HIN HKK cp2 cr2 fr2 cp3 cr3
    go_wp2_with fail
    refine R_begin (fun W => W.cell? ⟨w.heap.size + 1, 0, none⟩ = some (.slice A s.pages.length c) ∧ W.cell? ⟨w.heap.size + 1 + 1, 0, none⟩ = some (.int .i64 s.rows)) (fun _ => false) rfl ?_
    refine R_tk 0 25 H1.out ?_
    refine R_tk 1 26 H1.out ?_
    simp only [List.setIfInBounds_toArray, List.set_cons_zero, List.set_cons_succ]
    refine R_store 2 (n := .skip) (w' := w9.drew.setCell ⟨w.heap.size + 1, 0, none⟩ (.slice A s.pages.length c)) rfl rfl (by rfl) (by kernel_rfl) ?_ (.inl rfl) (fun _ => H2.out) ?_
    · have hSw := H1.out; go_simp
    refine R_store 3 (n := .skip) (w' := (w9.drew.setCell ⟨w.heap.size + 1, 0, none⟩ (.slice A s.pages.length c)).setCell ⟨w.heap.size + 1 + 1, 0, none⟩ (.int .i64 s.rows)) rfl rfl (by rfl) (by kernel_rfl) ?_ (.inl rfl) (fun _ => H3.out) ?_
    · have hSw := H2.out; go_simp
    refine R_tk 4 4 H3.out ?_
    simp only [List.setIfInBounds_toArray, List.set_cons_zero, List.set_cons_succ]
    refine R_done (by kernel_rfl) ?_ _
    rename_i K9 hK9
    refine hK9 _ _ ?_
    clear hK9
    go_wp2_with fail
    exact bodyPost_ret (v := .tuple #[.slice A s.pages.length c, .int .i64 s.rows, .int .i64 0]) (by rw [results_cct rfl]; go_simp) rfl HFIN.out
  · obtain ⟨⟨u, hu⟩, x, hx⟩ := hleft
    have cu := hu.cell 0
    have fu := hu.frozen 0
    simp only [List.getElem?_toArray, List.getElem?_cons_zero] at cu
    have hx' : Blk (w9.setCell ⟨w.heap.size + 1, 0, none⟩ (.slice none 0 0)) (w.heap.size + 1 + 1) 3 #[.int .i64 x] := hx.far (p := ⟨w.heap.size + 1, 0, none⟩) (by show w.heap.size + 1 + 1 ≠ w.heap.size + 1; omega) _
    have hu' : Blk (w9.setCell ⟨w.heap.size + 1, 0, none⟩ (.slice none 0 0)) (w.heap.size + 1) 34 #[.slice none 0 0] := hu.set_ 0 _
    have hu2 : Blk ((w9.setCell ⟨w.heap.size + 1, 0, none⟩ (.slice none 0 0)).setCell ⟨w.heap.size + 1 + 1, 0, none⟩ (.int .i64 0)) (w.heap.size + 1) 34 #[.slice none 0 0] := hu'.far (p := ⟨w.heap.size + 1 + 1, 0, none⟩) (by show w.heap.size + 1 ≠ w.heap.size + 1 + 1; omega) _
    have hx2 : Blk ((w9.setCell ⟨w.heap.size + 1, 0, none⟩ (.slice none 0 0)).setCell ⟨w.heap.size + 1 + 1, 0, none⟩ (.int .i64 0)) (w.heap.size + 1 + 1) 3 #[.int .i64 0] := hx'.set_ 0 _
    have cx := hx'.cell 0
    have fx := hx'.frozen 0
    have cu2 := hu2.cell 0
    have cx2 := hx2.cell 0
    simp only [List.getElem?_toArray, List.getElem?_cons_zero] at cx cu2 cx2
    have hk2 : Kept K w ((w9.setCell ⟨w.heap.size + 1, 0, none⟩ (.slice none 0 0)).setCell ⟨w.heap.size + 1 + 1, 0, none⟩ (.int .i64 0)) := ⟨hkk.os, hkk.tape, hkk.output, by simpa using hkk.size, fun b hb => (Below.heap_setCell _ _ _ b (hp1 b hb).2).trans ((Below.heap_setCell _ _ _ b (hp1 b hb).1).trans (hkk.block b hb))⟩
    have HK2 := Lib.hid hk2
    have HER := Lib.hid her
    have d1 : decide ((er : Int) = 0) = false := by rw [decide_eq_false_iff_not]; omega
    have d2 : ((er : Int) != 0) = true := by simp; omega
    clear hk2 hkk hu hx hu' hx' hu2 hx2 hk9 hin9 her HK8 H8 hb8 hz8
    go_wp2_with fail
    exact bodyPost_ret (v := .tuple #[.slice none 0 0, .int .i64 0, .int .i64 er]) (by rw [results_cct rfl]; go_simp) rfl ⟨HK2.out, .inl ⟨HER.out, rfl⟩⟩
end Go.Proofs.YtafopojibpifoaaGreat

/- The walk of package tree: Next. -/
namespace Go.Proofs.YtafopojibpifoaaGreat
open Go.RowKit Go.Conc

/-- What holds while the next row is looked for. -/
def NxtRel (ly : Ly) (pg : Nat → Sp.Pg) (kn : Nat → Option Sp.Kn) (K : Foot) (w : World) (gt root ga gd gl gp n g10 : Nat) (res : Option Sp.Rw) (t at_ : Nat) (wr : World) : Prop :=
  ∃ q A c, t ≤ 1024 ∧ Sp.nextF pg kn (1024 - t) q at_ = some res ∧ Blk wr g10 51 (pgCs (pg q) A c) ∧ RowsAt (rowK A (pg q).rows.length) wr A (pg q).rows ∧ (∀ b, rowK A (pg q).rows.length b → w.heap.size < b ∧ b ≠ g10) ∧ Blk wr w.heap.size 43 rwZc ∧
    TrAt ly pg (fun b => ((K b ∨ b = w.heap.size) ∨ b = g10) ∨ rowK A (pg q).rows.length b) wr gt root ga gd gl gp n ∧ Kept K w wr

set_option maxRecDepth 100000 in
set_option maxHeartbeats 8000000 in
theorem tree_next {ly : Ly} {pg : Nat → Sp.Pg} {kn : Nat → Option Sp.Kn} (hkn : Known ly pg kn) {K : Foot} {w : World} {gt root ga gd gl gp n : Nat} (h : TrAt ly pg K w gt root ga gd gl gp n) (k : Sp.Bs) (is : Bool) {steps : List (Nat × Nat)} {leaf : Nat} {rs : List Sp.Rw} (hw : Sp.wayF kn k 8 root = some (steps, leaf)) (hl : kn leaf = some (.leaf rs)) {res : Option Sp.Rw}
    (hn : Sp.nextF pg kn 1024 leaf (Sp.findK (Sp.keysR rs) k + if Sp.isK (Sp.keysR rs) k && !is then 1 else 0) = some res) :
    Calls Tryz.prog 14 #[ptr gt, str k, .bool is] w fun e w' => e = .returned (.tuple #[rwV (res.getD Sp.Rw.zero), .bool res.isSome, .int .i64 0]) ∧ TrAt ly pg K w' gt root ga gd gl gp n ∧ Kept K w w' := by
  have HLT := Lib.hid h.lt
  have hKa := h.ac.k
  have hKt := h.k
  have HKN := Lib.hid hkn
  have HPOK := Lib.hid h.ok
  obtain ⟨hq1, hqT, hokx⟩ := hkn leaf _ hl
  have hmay := (h.ok leaf hq1 hqT).2.1
  have hN := known_leaf hokx
  have hb1 := (Below.refl w.heap.size w).alloc (Nat.le_refl _) (.cells rwZc 43)
  have hB1 := Blk.new w 43 rwZc
  have h1 := h.more (K' := fun b => K b ∨ b = w.heap.size) hb1 (fun b hb => hb.imp id (fun e => by have e : b = w.heap.size := e; simp [e])) (.inl hKa) (.inl hKt)
  have HW := Lib.hid (tree_way hkn h1 k hw)
  have hk1 : Kept K w (w.alloc (.cells rwZc 43)) := Kept.of_below hb1 h.lt
  have hs1 : (w.alloc (.cells rwZc 43)).heap.size = w.heap.size + 1 := by simp
  have HN := Lib.hid hN
  have HMAY := Lib.hid hmay
  have HRES := Lib.hid hn
  have hfl := Sp.findK_le (Sp.keysR rs) k
  have hrl : (Sp.keysR rs).length ≤ 1000000 := by rw [← hN.len]; have := hmay.2.2.2.2; omega
  have hw1l : w.heap.size < (w.alloc (.cells rwZc 43)).heap.size := hB1.lt
  clear hkn h h1 hw hl hokx hN hmay hn
  go_enter Tryz.func14, Tryz.ntmps14
  go_wp2_with fail
  replace hs1 := Lib.hid hs1
  generalize hw1 : World.alloc w _ = w1 at hb1 hB1 HW hk1 hs1 hw1l ⊢
  clear hw1
  refine HW.out.mono ?_
  rintro e w2 ⟨v, A, c, rfl, _, hA, hR, hT2, hk2⟩
  have hB2 := hB1.kept hk2 (.inr rfl)
  have hb3 := (Below.refl w2.heap.size w2).alloc (Nat.le_refl _) (.cells (pgCs (pg leaf) A c) 51)
  have hB8 := Blk.new w2 51 (pgCs (pg leaf) A c)
  have hR3 := Reads.below hR hb3
  have hF := Lib.hid (node_find (c := c) HN.out HMAY.out hR3 k)
  have hB3 := hB2.below hb3 hB2.lt
  have hT3 := hT2.more (K' := fun b => ((K b ∨ b = w.heap.size) ∨ b = w2.heap.size) ∨ rowK A (pg leaf).rows.length b) hb3 (fun b hb => by
    rcases hb with (hb | hb) | hb
    · exact .inl (.inl hb)
    · exact .inr (by simp [hb])
    · exact .inl (.inr (.inl hb))) (.inl (.inl (.inl hKa))) (.inl (.inl (.inl hKt)))
  have hk3 := (hk1.trans (hk2.mono (fun b hb => .inl hb))).trans (Kept.of_below hb3 (fun b hb => hT2.lt b (.inl (.inl hb))))
  have hs2 := hk2.size
  have hrk : ∀ b, rowK A (pg leaf).rows.length b → w.heap.size < b ∧ b ≠ w2.heap.size := fun b hb => by
    have h1 := (rowK_of hR hb).1.1
    have h2 := (rowK_of hR hb).2
    exact ⟨by omega, by omega⟩
  clear hk1 hk2 hT2 hR hB2 hA hb1 hB1 HW
  go_wp2_with fail
  generalize hw3 : World.alloc w2 _ = w3 at hb3 hB8 hR3 hF hB3 hT3 hk3 ⊢
  clear hw3
  refine hF.out.mono ?_
  rintro e w4 ⟨rfl, hb4⟩
  have hR4 := (Reads.below hR3 hb4).mono (fun b hb => hb.2)
  have hB4 := hB3.below hb4 hB3.lt
  have hT4 := hT3.below hb4
  have hk4 := hk3.trans (Kept.of_below hb4 (fun b hb => hT3.lt b (.inl (.inl (.inl hb)))))
  have hB84 := hB8.below hb4 hB8.lt
  have HREL := Lib.hid (show NxtRel ly pg kn K w gt root ga gd gl gp n w2.heap.size res 0 (Sp.findK (Sp.keysR rs) k + if Sp.isK (Sp.keysR rs) k && !is then 1 else 0) w4 from
    ⟨leaf, A, c, by omega, HRES.out, hB84, hR4, hrk, hB4, hT4, hk4⟩)
  generalize Sp.findK (Sp.keysR rs) k = f at *
  generalize Sp.isK (Sp.keysR rs) k = here at *
  clear hR3 hB3 hT3 hk3 hb4 hb3 hB8 hF hR4 hB4 hT4 hk4 hB84 HRES hrk
  have hx : (here = false ∧ (if (here && !is) = true then 1 else 0) = 0) ∨ (here = true ∧ is = true ∧ (if (here && !is) = true then 1 else 0) = 0) ∨ (here = true ∧ is = false ∧ (if (here && !is) = true then 1 else 0) = 1) := by
    cases here <;> cases is <;> simp
  rcases hx with ⟨rfl, hx⟩ | ⟨rfl, rfl, hx⟩ | ⟨rfl, rfl, hx⟩
  all_goals
    rw [hx] at HREL
    clear hx
    go_wp2_with fail
    go_loopw [12, 40] (fun a i wr => ∃ t at_ : Nat, i = .int .i64 t ∧ a = .int .i64 at_ ∧ at_ ≤ 1000001 ∧ NxtRel ly pg kn K w gt root ga gd gl gp n w2.heap.size res t at_ wr) (fun _ i _ => 1024 - (intOf i).toNat)
    case atStart => exact ⟨0, _, rfl, by go_num, by omega, HREL.out⟩
    case round =>
      obtain ⟨t, at_, rfl, rfl, hat, q, A2, c2, ht, hnx, hB10, hR, hrk, hB6, hT, hk⟩ := hrel
      obtain ⟨f', hf⟩ : ∃ f', 1024 - t = f' + 1 := by
        rcases Nat.lt_or_ge t 1024 with h | h
        · exact ⟨1023 - t, by omega⟩
        · have : 1024 - t = 0 := by omega
          rw [this] at hnx
          cases hnx
      rw [hf, Sp.nextF] at hnx
      obtain ⟨rs', hkq⟩ : ∃ rs', kn q = some (.leaf rs') := by
        cases hx : kn q with
        | none => rw [hx] at hnx; cases hnx
        | some x =>
          cases x with
          | leaf rs' => exact ⟨rs', rfl⟩
          | bad => rw [hx] at hnx; cases hnx
          | inner es => rw [hx] at hnx; cases hnx
      simp only [hkq] at hnx
      obtain ⟨hq1, hqT, hokx⟩ := HKN.out q _ hkq
      have hlt' : t < 1024 := by omega
      have hrw := Lib.hid hokx.1.2.2.1
      have hrl' := Lib.hid (show (pg q).rows.length = rs'.length by rw [hrw.out, List.length_map])
      have hrok := Lib.hid hokx.1.2.2.2
      obtain ⟨c0, c1, c2', c3, c4, c5⟩ := page_cells hB10
      have hg6 := hB6.lt
      have HF := Lib.hid hf
      clear HREL hkq hokx hf
      by_cases hlt : at_ < (pg q).rows.length
      · have hlr : at_ < rs'.length := by rw [← hrl'.out]; exact hlt
        rw [if_pos hlr] at hnx
        obtain ⟨r, hr⟩ : ∃ r, rs'[at_]? = some r := ⟨_, List.getElem?_eq_getElem hlr⟩
        have hres : res = some r := by rw [hr] at hnx; injection hnx with hnx; exact hnx.symm
        subst hres
        have hrm := hrok.out r (List.mem_of_getElem? hr)
        obtain ⟨b, o, hA, _, hbl, hcell⟩ := RowsAt.row hR hlt
        have hrow : (pg q).rows[at_] = r.bytes := by
          have e2 : (pg q).rows[at_]? = some r.bytes := by rw [hrw.out, List.getElem?_map, hr]; rfl
          rw [List.getElem?_eq_getElem hlt] at e2
          injection e2
        rw [hrow] at hcell
        subst hA
        have HD := Lib.hid fun (W : World) => row_decodeP repZ r hrm.1 hrm.2 W
        clear hnx hrm hrow hr hR hlr
        go_wp2_with fail
        refine (HD.out _).mono ?_
        rintro e w5 ⟨rfl, hb5⟩
        have hb6 := (hb5.alloc hb5.size (.cells (rwA r) 43))
        have hB66 := hB6.below hb6 hB6.lt
        have hT6 := hT.below hb6
        have hk6 := hk.trans (Kept.of_below hb6 (fun b hb => hT.lt b (.inl (.inl (.inl hb)))))
        have hB12 := Blk.new w5 43 (rwA r)
        obtain ⟨n0, n1, n2, n3, n4, n5, n6⟩ := row_cells hB12
        have hTf := (Turns.refl (only w.heap.size) (w5.alloc (.cells (rwA r) 43))).setRow (.inl rfl) (rwA r)
        have hBf := hB66.setRow (rwA r)
        have hs5 := hb5.size
        clear HD hB6 hT hk hb5 c0 c1 c2' c3 c4 c5 hcell
        go_wp2_with (refine wpList_store_part rfl _ _ _ rfl w.heap.size 0 (rwA r) rfl rfl _ _ hB66 row_size (by show 0 + 7 ≤ 7; omega) (row_one _ _ _ _ _ _ _) ?_)
        change bodyPost _ _ _ _ _ ((w5.alloc (.cells (rwA r) 43)).setRow w.heap.size (rwA r))
        generalize hw6 : World.alloc w5 _ = w6 at hB66 hb6 hT6 hk6 hTf hBf ⊢
        have hs6 := hb6.size
        generalize hw7 : World.setRow w6 _ _ = w7 at hTf hBf ⊢
        obtain ⟨z0, z1, z2, z3, z4, z5, z6⟩ := row_cells hBf
        have hT7 : TrAt ly pg K w7 gt root ga gd gl gp n := hT6.go hTf (fun b hb => .inl ⟨.inl (.inl (.inr hb)), fun e => by have hb : b = w.heap.size := hb; have := HLT.out ga hKa; omega, fun e => by have hb : b = w.heap.size := hb; have := HLT.out gt hKt; omega⟩) (fun b hb => .inl (.inl (.inl (.inl hb)))) hKa hKt
        have hk7 : Kept K w w7 := hk6.trans (Kept.of_turns hTf (fun b hb => ⟨by have := HLT.out b hb; omega, fun e => by have e : b = w.heap.size := e; have := HLT.out b hb; omega⟩))
        clear hw6 hw7 hTf hBf hB66 hT6 hk6 hB12 n0 n1 n2 n3 n4 n5 n6
        exact bodyPost_ret (v := .tuple #[rwV r, .bool true, .int .i64 0]) (by rw [results_ctt rfl]; go_simp) rfl ⟨rfl, hT7, hk7⟩
      · have hlr : ¬ at_ < rs'.length := by rw [← hrl'.out]; exact hlt
        rw [if_neg hlr] at hnx
        by_cases hz : (pg q).next = 0
        · rw [if_pos hz] at hnx
          have hres : res = none := by injection hnx with hnx; exact hnx.symm
          subst hres
          have d1 : decide (((pg q).next : Int) = 0) = true := by rw [decide_eq_true_eq]; omega
          have d2 : (((pg q).next : Int) == 0) = true := by rw [beq_iff_eq]; omega
          have hTf := (Turns.refl (only w.heap.size) wr).setRow (.inl rfl) (rwA Sp.Rw.zero)
          have hBf := hB6.setRow (rwA Sp.Rw.zero)
          clear hnx hR hlr hz
          go_wp2_with (refine wpList_store_part rfl _ _ _ rfl w.heap.size 0 (rwA Sp.Rw.zero) rfl rfl _ _ hB6 row_size (by show 0 + 7 ≤ 7; omega) (row_one [] [] _ _ _ _ _) ?_)
          change bodyPost _ _ _ _ _ (wr.setRow w.heap.size (rwA Sp.Rw.zero))
          generalize hw5 : World.setRow wr _ _ = w5 at hTf hBf ⊢
          obtain ⟨z0, z1, z2, z3, z4, z5, z6⟩ := row_cells hBf
          have hT5 : TrAt ly pg K w5 gt root ga gd gl gp n := hT.go hTf (fun b hb => .inl ⟨.inl (.inl (.inr hb)), fun e => by have hb : b = w.heap.size := hb; have := HLT.out ga hKa; omega, fun e => by have hb : b = w.heap.size := hb; have := HLT.out gt hKt; omega⟩) (fun b hb => .inl (.inl (.inl (.inl hb)))) hKa hKt
          have hk5 : Kept K w w5 := hk.trans (Kept.of_turns hTf (fun b hb => ⟨by have := HLT.out b hb; omega, fun e => by have e : b = w.heap.size := e; have := HLT.out b hb; omega⟩))
          clear hw5 hTf hBf hB6 hT hk
          exact bodyPost_ret (v := .tuple #[rwV Sp.Rw.zero, .bool false, .int .i64 0]) (by rw [results_ctt rfl]; go_simp) rfl ⟨rfl, hT5, hk5⟩
        · rw [if_neg hz] at hnx
          have d1 : decide (((pg q).next : Int) = 0) = false := by rw [decide_eq_false_iff_not]; omega
          have d2 : (((pg q).next : Int) == 0) = false := by rw [beq_eq_false_iff_ne]; omega
          obtain ⟨f2, hf2⟩ : ∃ f2, f' = f2 + 1 := by
            cases f' with
            | zero => cases hnx
            | succ f2 => exact ⟨f2, rfl⟩
          obtain ⟨rs2, hkq2⟩ : ∃ rs2, kn (pg q).next = some (.leaf rs2) := by
            rw [hf2, Sp.nextF] at hnx
            cases hx : kn (pg q).next with
            | none => rw [hx] at hnx; cases hnx
            | some x =>
              cases x with
              | leaf rs2 => exact ⟨rs2, rfl⟩
              | bad => rw [hx] at hnx; cases hnx
              | inner es => rw [hx] at hnx; cases hnx
          obtain ⟨hn1, hnT, hok2⟩ := HKN.out _ _ hkq2
          have hN2 := Lib.hid (known_leaf hok2)
          have hM2 := Lib.hid (HPOK.out _ hn1 hnT).2.1
          have hk2d : (pg (pg q).next).kind = 1 := hok2.1.1
          have d3 : (((pg (pg q).next).kind : Int) != 1) = false := by simp [hk2d]
          have d4 : decide (((pg (pg q).next).kind : Int) = 1) = true := by rw [decide_eq_true_eq]; omega
          have HNX := Lib.hid hnx
          have HF2 := Lib.hid hf2
          have HP := Lib.hid (tree_page hT.drew hn1 hnT)
          have e0 := hT.cells.1
          have hgl := hT.lt
          clear hnx hz hlr hf2 hkq2 hok2 hk2d
          go_wp2_with fail
          have hS := Lib.hid (show wr.drew.cell? ⟨gt, 0, none⟩ = some (ptr ga) from e0)
          have hc4 := Lib.hid (show wr.drew.cell? ⟨w2.heap.size, 4, none⟩ = some (.int .u32 (pg q).next) from c4)
          clear c0 c1 c2' c3 c4 c5 e0
          refine R_begin (fun W => W.cell? ⟨gt, 0, none⟩ = some (ptr ga)) (fun _ => false) rfl ?_
          refine R_tk 0 62 hS.out ?_
          refine R_tk 1 63 hS.out ?_
          refine R_tk 2 64 hS.out ?_
          refine R_tk 3 65 hS.out ?_
          refine R_tk 4 66 hS.out ?_
          simp only [List.setIfInBounds_toArray, List.set_cons_zero, List.set_cons_succ]
          refine R_run 5 67 (v := .int .u32 (pg q).next) (w' := wr.drew) rfl rfl (by rfl) (by kernel_rfl) ?_ (fun _ => hS.out) ?_
          · have hcc := hc4.out
            go_simp
          simp only [List.setIfInBounds_toArray, List.set_cons_zero, List.set_cons_succ]
          refine R_call 6 68 (w' := wr.drew) rfl rfl (by rfl) (by kernel_rfl) ?_ HP.out ?_
          · go_simp
          rintro e w5 ⟨A3, c3, rfl, hA3, hR5, hT5, hk5⟩
          have hg0 := hB10.lt
          have hB105 := (show Blk wr.drew w2.heap.size 51 (pgCs (pg q) A2 c2) from hB10).kept hk5 (.inl (.inr rfl))
          have hB65 := (show Blk wr.drew w.heap.size 43 rwZc from hB6).kept hk5 (.inl (.inl (.inr rfl)))
          have hk5' : Kept K w w5 := hk.trans (show Kept K wr w5 from ⟨hk5.os, hk5.tape, hk5.output, hk5.size, fun b hb => hk5.block b (.inl (.inl (.inl hb)))⟩)
          have e5 := hT5.cells.1
          have hTf := (Turns.refl (only w2.heap.size) w5).setRow (.inl rfl) (pgCs (pg (pg q).next) A3 c3)
          have hgtn : gt ≠ w2.heap.size := fun e => by have := HLT.out gt hKt; omega
          have hgan : ga ≠ w2.heap.size := fun e => by have := HLT.out ga hKa; omega
          have hS6 : (w5.setRow w2.heap.size (pgCs (pg (pg q).next) A3 c3)).cell? ⟨gt, 0, none⟩ = some (ptr ga) := (World.cell?_of_block (w := w5) (a := ⟨gt, 0, none⟩) (heap_setRow_other _ _ _ _ hgtn)).trans e5
          refine ⟨_, rfl, fun _ => e5, ?_⟩
          refine R_tk 7 61 e5 ?_
          refine R_tk 8 69 e5 ?_
          refine R_tk 9 70 e5 ?_
          simp only [List.setIfInBounds_toArray, List.set_cons_zero, List.set_cons_succ]
          refine R_store 10 (n := .skip) (w' := w5.setRow w2.heap.size (pgCs (pg (pg q).next) A3 c3)) rfl rfl (by rfl) (by kernel_rfl) ?_ (.inl rfl) (fun _ => hS6) ?_
          · exact run_op_store _ _ _ _ _ rfl rfl rfl (page_store hB105)
          refine R_tk 11 11 hS6 ?_
          simp only [List.setIfInBounds_toArray, List.set_cons_zero, List.set_cons_succ]
          refine R_done (by kernel_rfl) ?_ _
          rename_i K9 hK9
          refine hK9 _ _ ?_
          clear hK9
          have hrk5 : ∀ b, rowK A3 (pg (pg q).next).rows.length b → w.heap.size < b ∧ b ≠ w2.heap.size := fun b hb => by
            have h1 : wr.heap.size ≤ b := (rowK_of hR5 hb).1.1
            exact ⟨by omega, by omega⟩
          have hB106 := hB105.setRow (pgCs (pg (pg q).next) A3 c3)
          have hB66 : Blk (w5.setRow w2.heap.size (pgCs (pg (pg q).next) A3 c3)) w.heap.size 43 rwZc := hB65.turns hTf (fun e => by have e : w.heap.size = w2.heap.size := e; omega)
          have hR6 : RowsAt (rowK A3 (pg (pg q).next).rows.length) (w5.setRow w2.heap.size (pgCs (pg (pg q).next) A3 c3)) A3 (pg (pg q).next).rows :=
            (hR5.turns hTf (fun b hb => ⟨(rowK_of hR5 hb.2).2, fun e => (hrk5 b hb.2).2 e⟩)).mono (fun b hb => hb.2)
          have hT6 : TrAt ly pg (fun b => ((K b ∨ b = w.heap.size) ∨ b = w2.heap.size) ∨ rowK A3 (pg (pg q).next).rows.length b) (w5.setRow w2.heap.size (pgCs (pg (pg q).next) A3 c3)) gt root ga gd gl gp n := by
            refine hT5.go hTf (fun b hb => .inl ⟨.inl (.inl (.inr hb)), fun e => ?_, fun e => ?_⟩) (fun b hb => .inl ?_) (.inl (.inl (.inl hKa))) (.inl (.inl (.inl hKt)))
            · have hb : b = w2.heap.size := hb; exact hgan (by rw [← e, hb])
            · have hb : b = w2.heap.size := hb; exact hgtn (by rw [← e, hb])
            · exact hb.imp .inl id
          have hk6 : Kept K w (w5.setRow w2.heap.size (pgCs (pg (pg q).next) A3 c3)) := hk5'.trans (Kept.of_turns hTf (fun b hb => ⟨by have := HLT.out b hb; have := hk5'.size; omega, fun e => by have e : b = w2.heap.size := e; have := HLT.out b hb; omega⟩))
          generalize hw6 : World.setRow w5 _ _ = w6 at hB106 hB66 hR6 hT6 hk6 ⊢
          have HC := Lib.hid (node_check (c := c3) hN2.out hM2.out hR6)
          obtain ⟨c0, c1, c2', c3', c4, c5⟩ := page_cells hB106
          clear hw6 hTf hS6 hB105 hB65 hT5 hR5 hk5 hk5' e5 hS hc4 HP hT hk hR hB10 hB6 hrk
          go_wp2_with fail
          refine HC.out.mono ?_
          rintro e w7 ⟨rfl, hb7⟩
          have HREL7 := Lib.hid (show NxtRel ly pg kn K w gt root ga gd gl gp n w2.heap.size res (t + 1) 0 w7 from
            ⟨(pg q).next, A3, c3, by omega, by rw [show 1024 - (t + 1) = f' by have := HF.out; omega]; exact HNX.out, hB106.below hb7 hB106.lt, Reads.below hR6 hb7, hrk5, hB66.below hb7 hB66.lt, hT6.below hb7, hk6.trans (Kept.of_below hb7 (fun b hb => hT6.lt b (.inl (.inl (.inl hb)))))⟩)
          clear c0 c1 c2' c3' c4 c5 hb7 HC hT6 hk6 hR6 hB106 hB66
          go_wp2_with fail
          go_roundw
          case rel => exact ⟨t + 1, 0, by go_num, rfl, by omega, HREL7.out⟩
          case measure => simp [intOf]; omega
end Go.Proofs.YtafopojibpifoaaGreat

/- The walk of the law package pentimentolaw18: alive: some answers that are fixed, of a tree of three pages. -/
namespace Go.Proofs.YtafopojibpifoaaGreat
open Go.RowKit Go.Conc

namespace Sp
def alE : List En := [⟨[], 3⟩, ⟨[99], 4⟩]
def alA : List Rw := [⟨[97], false, 0, 0, 0, [], 0⟩]
def alC : List Rw := [⟨[99], false, 0, 0, 0, [], 0⟩, ⟨[100], false, 0, 0, 0, [], 0⟩]
def alL : List Pg := [⟨2, 1, 1, 0, 0, alE.map En.bytes⟩, ⟨1, 0, 3, 0, 4, alA.map Rw.bytes⟩, ⟨1, 0, 4, 0, 0, alC.map Rw.bytes⟩]
def alK (q : Nat) : Option Kn := if q = 1 then some (.inner alE) else if q = 3 then some (.leaf alA) else if q = 4 then some (.leaf alC) else none
theorem al_pick (q : Nat) : pick alL q = if q = 4 then ⟨1, 0, 4, 0, 0, alC.map Rw.bytes⟩ else if q = 3 then ⟨1, 0, 3, 0, 4, alA.map Rw.bytes⟩ else if q = 1 then ⟨2, 1, 1, 0, 0, alE.map En.bytes⟩ else zeroPg q := by
  unfold pick alL
  simp only [List.foldl_cons, List.foldl_nil]
  by_cases h4 : q = 4
  · subst h4; rfl
  · rw [if_neg (fun h => h4 h.symm), if_neg h4]
    by_cases h3 : q = 3
    · subst h3; rfl
    · rw [if_neg (fun h => h3 h.symm), if_neg h3]
      by_cases h1 : q = 1
      · subst h1; rfl
      · rw [if_neg (fun h => h1 h.symm), if_neg h1]
theorem al_can : canB alL = true := by decide +kernel
theorem al_rw : ∀ r ∈ alA ++ alC, r.may ∧ r.wf := by
  intro r hr
  simp [alA, alC] at hr
  rcases hr with rfl | rfl | rfl <;> simp [Rw.may, Rw.wf]
theorem al_en : ∀ e ∈ alE, e.may := by
  intro r hr
  simp [alE] at hr
  rcases hr with rfl | rfl <;> simp [En.may]
theorem al_wf (q : Nat) (h2 : q ≤ 12) : (pick alL q).wf := by
  rw [al_pick]
  split
  · simp [Pg.wf]
  · split
    · simp [Pg.wf]
    · split
      · simp [Pg.wf]
      · simp [Pg.wf, zeroPg]; omega
theorem al_ok (q : Nat) : (pick alL q).rows.length ≤ 1000000000 ∧ total (pick alL q).rows ≤ 1000000000 := by
  rw [al_pick]
  split
  · decide +kernel
  · split
    · decide +kernel
    · split
      · decide +kernel
      · simp [zeroPg, total]
theorem al_kn (q : Nat) (x : Kn) (h : alK q = some x) : 1 ≤ q ∧ q ≤ 12 ∧ KnOk (pick alL q) x := by
  unfold alK at h
  split at h
  · rename_i e
    subst e
    injection h with h
    subst h
    refine ⟨by omega, by omega, ?_⟩
    rw [al_pick]
    exact ⟨⟨rfl, by show (1 : Nat) ≠ 0; decide, by simp [alE], rfl, al_en⟩, by unfold Rises alE; decide +kernel⟩
  · split at h
    · rename_i e
      subst e
      injection h with h
      subst h
      refine ⟨by omega, by omega, ?_⟩
      rw [al_pick]
      exact ⟨⟨rfl, rfl, rfl, fun r hr => al_rw r (List.mem_append.2 (.inl hr))⟩, by unfold Rises keysR alA; decide +kernel⟩
    · split at h
      · rename_i e
        subst e
        injection h with h
        subst h
        refine ⟨by omega, by omega, ?_⟩
        rw [al_pick]
        exact ⟨⟨rfl, rfl, rfl, fun r hr => al_rw r (List.mem_append.2 (.inr hr))⟩, by unfold Rises keysR alC; decide +kernel⟩
      · cases h
theorem al_way_a : wayF alK [97] 8 1 = some ([(1, 0), (3, 0)], 3) := by kernel_rfl
theorem al_way_b : wayF alK [98] 8 1 = some ([(1, 0), (3, 0)], 3) := by kernel_rfl
theorem al_way_d : wayF alK [100] 8 1 = some ([(1, 1), (4, 0)], 4) := by kernel_rfl
theorem al_next_a : nextF (pick alL) alK 1024 3 (findK (keysR alA) [97] + if isK (keysR alA) [97] && !false then 1 else 0) = some (some ⟨[99], false, 0, 0, 0, [], 0⟩) := by kernel_rfl
theorem al_next_d : nextF (pick alL) alK 1024 4 (findK (keysR alC) [100] + if isK (keysR alC) [100] && !false then 1 else 0) = some none := by kernel_rfl
theorem al_walk : walkF (pick alL) alK 2 st0 1 (-1) [] [] = some (0, ⟨[1, 3, 4], 0, false, [1, 3, 4], 3⟩) := by kernel_rfl
theorem al_get_a : getR alA [97] = ⟨[97], false, 0, 0, 0, [], 0⟩ ∧ isK (keysR alA) [97] = true := by constructor <;> kernel_rfl
end Sp

/-- A row that was just laid is read. -/
theorem reads_new (w : World) (t : TypeId) (size n : Nat) (cs : List Value) (h : cs.length = n * size) : Reads (fun b => b = w.heap.size) (w.alloc (.cells cs.toArray t)) size (some ⟨w.heap.size, 0, none⟩) n cs :=
  ⟨h, fun _ => ⟨w.heap.size, 0, rfl, rfl, (Blk.new w t cs.toArray).lt, fun j u hu => by
    rw [Nat.zero_add]
    exact ((Blk.new w t cs.toArray).cell j).trans (by rw [List.getElem?_toArray]; exact hu)⟩⟩
/-- A box more is kept. -/
theorem TrAt.box {ly : Ly} {pg : Nat → Sp.Pg} {K : Foot} {w : World} {gt root ga gd gl gp n : Nat} (h : TrAt ly pg K w gt root ga gd gl gp n) (t : TypeId) (cs : Array Value) :
    TrAt ly pg (fun b => K b ∨ b = w.heap.size) (w.alloc (.cells cs t)) gt root ga gd gl gp n ∧ Blk (w.alloc (.cells cs t)) w.heap.size t cs ∧ Kept K w (w.alloc (.cells cs t)) := by
  have hb := (Below.refl w.heap.size w).alloc (Nat.le_refl _) (.cells cs t)
  exact ⟨h.more hb (fun b hb => hb.imp id (fun e => by rw [e]; simp)) (.inl h.ac.k) (.inl h.k), Blk.new w t cs, Kept.of_below hb h.lt⟩
/-- Three pages, laid side by side. -/
theorem pgs_three {w : World} {A1 A2 A3 : Option Addr} {c1 c2 c3 : Nat} {p1 p2 p3 : Sp.Pg} {G1 G2 G3 : Foot} (h1 : RowsAt G1 w A1 p1.rows) (h2 : RowsAt G2 w A2 p2.rows) (h3 : RowsAt G3 w A3 p3.rows) (t : TypeId) :
    PgsL (fun b => b < w.heap.size) (w.alloc (.cells (pgl p1 A1 c1 ++ pgl p2 A2 c2 ++ pgl p3 A3 c3).toArray t)) w.heap.size 0 [p1, p2, p3] := by
  have hb := (Below.refl w.heap.size w).alloc (Nat.le_refl _) (.cells (pgl p1 A1 c1 ++ pgl p2 A2 c2 ++ pgl p3 A3 c3).toArray t)
  have hB := Blk.new w t (pgl p1 A1 c1 ++ pgl p2 A2 c2 ++ pgl p3 A3 c3).toArray
  intro q hq
  match q, hq with
  | 0, _ => exact ⟨A1, c1, Reads.below ((Reads.in_ h1).mono (fun b hb => hb.2)) hb, hB.cell 0, hB.cell 1, hB.cell 2, hB.cell 3, hB.cell 4, hB.cell 5⟩
  | 1, _ => exact ⟨A2, c2, Reads.below ((Reads.in_ h2).mono (fun b hb => hb.2)) hb, hB.cell 6, hB.cell 7, hB.cell 8, hB.cell 9, hB.cell 10, hB.cell 11⟩
  | 2, _ => exact ⟨A3, c3, Reads.below ((Reads.in_ h3).mono (fun b hb => hb.2)) hb, hB.cell 12, hB.cell 13, hB.cell 14, hB.cell 15, hB.cell 16, hB.cell 17⟩

set_option maxRecDepth 100000 in
set_option maxHeartbeats 8000000 in
theorem law18_alive (w : World) : Calls Tryz.prog 7 #[] w fun e w' => e = .returned (.bool true) ∧ Below w.heap.size w w' := by
  have HKN : Hid (Known ly17 (Sp.pick Sp.alL) Sp.alK) := Lib.hid fun q x h => Sp.al_kn q x h
  have hRE := reads_new w 66 2 2 [str [], .int .u32 3, str [99], .int .u32 4] rfl
  have hb0 := (Below.refl w.heap.size w).alloc (Nat.le_refl _) (.cells [str [], .int .u32 3, str [99], .int .u32 4].toArray 66)
  have HI := Lib.hid (law18_inner 1 1 (cap := 2) (l := Sp.alE) (A := some ⟨w.heap.size, 0, none⟩) hRE Sp.al_en (by decide))
  clear hRE
  go_enter Tryz.func7, Tryz.ntmps7
  go_wp2_with fail
  refine HI.out.mono ?_
  rintro e w1 ⟨A1, c1, rfl, hA1, hR1, hb1⟩
  have hb01 := hb0.trans (hb1.mono hb0.size)
  have HR1 := Lib.hid hR1
  have hRA := reads_new w1 43 7 1 [str [97], .bool false, .int .u64 0, .int .u32 0, .int .u16 0, str [], .int .i64 0] rfl
  have hbA := (Below.refl w1.heap.size w1).alloc (Nat.le_refl _) (.cells [str [97], .bool false, .int .u64 0, .int .u32 0, .int .u16 0, str [], .int .i64 0].toArray 43)
  have HL1 := Lib.hid (law18_leaf 3 4 (cap := 1) (l := Sp.alA) (A := some ⟨w1.heap.size, 0, none⟩) hRA (fun r hr => Sp.al_rw r (List.mem_append.2 (.inl hr))) (by decide))
  clear HI hR1 hb0 hb1 hRA
  go_wp2_with fail
  refine HL1.out.mono ?_
  rintro e w2 ⟨A2, c2, rfl, hA2, hR2, hb2⟩
  have hb12 := hbA.trans (hb2.mono hbA.size)
  have hb02 := hb01.trans (hb12.mono hb01.size)
  have HR1' := Lib.hid (Reads.below HR1.out hb12)
  have HR2 := Lib.hid hR2
  have hRC := reads_new w2 43 7 2 [str [99], .bool false, .int .u64 0, .int .u32 0, .int .u16 0, str [], .int .i64 0, str [100], .bool false, .int .u64 0, .int .u32 0, .int .u16 0, str [], .int .i64 0] rfl
  have hbC := (Below.refl w2.heap.size w2).alloc (Nat.le_refl _) (.cells [str [99], .bool false, .int .u64 0, .int .u32 0, .int .u16 0, str [], .int .i64 0, str [100], .bool false, .int .u64 0, .int .u32 0, .int .u16 0, str [], .int .i64 0].toArray 43)
  have HL2 := Lib.hid (law18_leaf 4 0 (cap := 2) (l := Sp.alC) (A := some ⟨w2.heap.size, 0, none⟩) hRC (fun r hr => Sp.al_rw r (List.mem_append.2 (.inr hr))) (by decide))
  clear HL1 HR1 hR2 hb2 hbA hb12 hRC hb01
  go_wp2_with fail
  refine HL2.out.mono ?_
  rintro e w3 ⟨A3, c3, rfl, hA3, hR3, hb3⟩
  have hb23 := hbC.trans (hb3.mono hbC.size)
  have hb03 := hb02.trans (hb23.mono hb02.size)
  have hP := pgs_three (c1 := c1) (c2 := c2) (c3 := c3) (p1 := ⟨2, 1, 1, 0, 0, Sp.alE.map Sp.En.bytes⟩) (p2 := ⟨1, 0, 3, 0, 4, Sp.alA.map Sp.Rw.bytes⟩) (p3 := ⟨1, 0, 4, 0, 0, Sp.alC.map Sp.Rw.bytes⟩) (Reads.below HR1'.out hb23) (Reads.below HR2.out hb23) hR3 51
  have hM := law18_made (cap := 3) (root := 1) (o := 0) (l := Sp.alL) hP (by simp) (fun x hx => by have hx : x < w3.heap.size := hx; simp; omega) (fun q _ _ => Sp.al_ok q) (by decide) (fun q _ h => Sp.al_wf q h) (by omega) (by omega)
  have HM := Lib.hid hM
  have hb04 := hb03.alloc hb03.size (.cells (pgl ⟨2, 1, 1, 0, 0, Sp.alE.map Sp.En.bytes⟩ A1 c1 ++ pgl ⟨1, 0, 3, 0, 4, Sp.alA.map Sp.Rw.bytes⟩ A2 c2 ++ pgl ⟨1, 0, 4, 0, 0, Sp.alC.map Sp.Rw.bytes⟩ A3 c3).toArray 51)
  have HB04 := Lib.hid hb04
  clear hP hM hb04 hb03 hb23 hb02 HR1' HR2 hR3 hb3 hbC HL2
  go_wp2_with fail
  refine HM.out.mono ?_
  rintro e w5 (⟨hc, _⟩ | ⟨_, gt, gx, ga, gd, gl, gp, rfl, hT, hb5⟩)
  · rw [Sp.al_can] at hc; cases hc
  have hbw : Below w.heap.size w w5 := HB04.out.trans (hb5.mono HB04.out.size)
  have hK0 : ∀ b, b < w.heap.size → (fun b => b < (w3.alloc (.cells (pgl ⟨2, 1, 1, 0, 0, Sp.alE.map Sp.En.bytes⟩ A1 c1 ++ pgl ⟨1, 0, 3, 0, 4, Sp.alA.map Sp.Rw.bytes⟩ A2 c2 ++ pgl ⟨1, 0, 4, 0, 0, Sp.alC.map Sp.Rw.bytes⟩ A3 c3).toArray 51)).heap.size ∨ b = gt ∨ b = ga) b := fun b hb => .inl (Nat.lt_of_lt_of_le hb HB04.out.size)
  clear HM HB04 hb5
  generalize hKe : (fun b => b < (w3.alloc (.cells (pgl ⟨2, 1, 1, 0, 0, Sp.alE.map Sp.En.bytes⟩ A1 c1 ++ pgl ⟨1, 0, 3, 0, 4, Sp.alA.map Sp.Rw.bytes⟩ A2 c2 ++ pgl ⟨1, 0, 4, 0, 0, Sp.alC.map Sp.Rw.bytes⟩ A3 c3).toArray 51)).heap.size ∨ b = gt ∨ b = ga) = K at hT hK0
  clear hKe
  have HG := Lib.hid (tree_get HKN.out hT [97] Sp.al_way_a rfl)
  have hlt := hT.lt
  clear hT
  go_wp2_with fail
  refine HG.out.mono ?_
  rintro e w6 ⟨rfl, hT6, hk6⟩
  rw [Sp.al_get_a.1, Sp.al_get_a.2]
  obtain ⟨hT7, hB7, hk7⟩ := hT6.box 43 (rwA ⟨[97], false, 0, 0, 0, [], 0⟩)
  have hk57 := hk6.trans hk7
  have HN := Lib.hid (tree_next HKN.out hT7 [97] false Sp.al_way_a rfl Sp.al_next_a)
  clear hT6 hk6 hk7 hT7 HG
  go_wp2_with fail
  refine HN.out.mono ?_
  clear HN
  generalize World.alloc w6 _ = w7 at hB7 hk57
  rintro e w8 ⟨rfl, hT8, hk8⟩
  have hB8 := hB7.kept hk8 (.inr rfl)
  have hk58 := hk57.trans (hk8.mono (fun b hb => .inl hb))
  obtain ⟨hT9, hB9, hk9⟩ := hT8.box 43 (rwA ⟨[99], false, 0, 0, 0, [], 0⟩)
  have hB89 := hB8.kept hk9 (.inr rfl)
  have hk59 := hk58.trans (hk9.mono (fun b hb => .inl hb))
  have HN := Lib.hid (tree_next HKN.out hT9 [100] false Sp.al_way_d rfl Sp.al_next_d)
  clear hT8 hk8 hk9 hT9 hB7 hB8 hk57 hk58
  go_wp2_with fail
  refine HN.out.mono ?_
  clear HN
  generalize World.alloc w8 _ = w9 at hB9 hB89 hk59
  rintro e w10 ⟨rfl, hT10, hk10⟩
  have hBa := hB89.kept hk10 (.inl (.inr rfl))
  have hBb := hB9.kept hk10 (.inr rfl)
  have hk510 := hk59.trans (hk10.mono (fun b hb => .inl (.inl hb)))
  obtain ⟨hT11, hB11, hk11⟩ := hT10.box 43 (rwA Sp.Rw.zero)
  have hBa := hBa.kept hk11 (.inl (.inr rfl))
  have hBb := hBb.kept hk11 (.inr rfl)
  have hk511 := hk510.trans (hk11.mono (fun b hb => .inl (.inl hb)))
  have HW := Lib.hid (tree_way HKN.out hT11 [98] Sp.al_way_b)
  clear hT10 hk10 hk11 hT11 hB11 hB9 hB89 hk59 hk510
  go_wp2_with fail
  refine HW.out.mono ?_
  clear HW
  generalize World.alloc w10 _ = w11 at hBa hBb hk511
  rintro e w12 ⟨v, A, c, rfl, hO, hA, hR, hT12, hk12⟩
  have hp3 : Sp.pick Sp.alL 3 = ⟨1, 0, 3, 0, 4, Sp.alA.map Sp.Rw.bytes⟩ := by rw [Sp.al_pick]; rfl
  rw [hp3] at hT12 ⊢
  obtain ⟨gv, cv, rfl⟩ := own_form' hO (by decide)
  have hv0 : w12.cell? ⟨gv, 0, none⟩ = some (.int .u32 1) := by simpa [Addr.add] using hO.cells (g := gv) rfl 0 (.int .u32 1) rfl
  have hv1 : w12.cell? ⟨gv, 1, none⟩ = some (.int .i64 0) := by simpa [Addr.add] using hO.cells (g := gv) rfl 1 (.int .i64 0) rfl
  have hBa := hBa.kept hk12 (.inl (.inl (.inr rfl)))
  have hBb := hBb.kept hk12 (.inl (.inr rfl))
  have hk512 := hk511.trans (hk12.mono (fun b hb => .inl (.inl (.inl hb))))
  obtain ⟨hT13, hB13, hk13⟩ := hT12.box 51 (pgCs ⟨1, 0, 3, 0, 4, Sp.alA.map Sp.Rw.bytes⟩ A c)
  have hBa := hBa.kept hk13 (.inl (.inl (.inl (.inr rfl))))
  have hBb := hBb.kept hk13 (.inl (.inl (.inr rfl)))
  have hv0 := (World.cell?_of_block (a := ⟨gv, 0, none⟩) (hk13.block gv (.inr (.inr rfl)))).trans hv0
  have hv1 := (World.cell?_of_block (a := ⟨gv, 1, none⟩) (hk13.block gv (.inr (.inr rfl)))).trans hv1
  have hk513 := hk512.trans (hk13.mono (fun b hb => .inl (.inl (.inl (.inl hb)))))
  have HC := Lib.hid (tree_check HKN.out hT13 Sp.al_walk (fun _ => rfl))
  clear hT12 hk12 hk13 hT13 hk511 hk512 hO hR
  go_wp2_with fail
  refine HC.out.mono ?_
  clear HC
  generalize World.alloc w12 _ = w13 at hBa hBb hB13 hv0 hv1 hk513
  rintro e w14 ⟨hk14, (⟨hne, _⟩ | ⟨_, v2, rfl, hO2, hT14⟩)⟩
  · exact absurd rfl hne
  obtain ⟨Av, cv2, rfl⟩ := row_shape hO2
  have hBa := hBa.kept hk14 (.inl (.inl (.inl (.inl (.inr rfl)))))
  have hBb := hBb.kept hk14 (.inl (.inl (.inl (.inr rfl))))
  have hBp := hB13.kept hk14 (.inr rfl)
  have hv0 := (World.cell?_of_block (a := ⟨gv, 0, none⟩) (hk14.block gv (.inl (.inr (.inr rfl))))).trans hv0
  have hv1 := (World.cell?_of_block (a := ⟨gv, 1, none⟩) (hk14.block gv (.inl (.inr (.inr rfl))))).trans hv1
  have hk514 := hk513.trans (hk14.mono (fun b hb => .inl (.inl (.inl (.inl (.inl hb))))))
  have HR := Lib.hid (tree_root hT14.tree)
  have ca := hBa.cell 0
  have cb := hBb.cell 0
  have cp := hBp.cell 2
  simp only [List.getElem?_toArray, List.getElem?_cons_succ, List.getElem?_cons_zero] at ca cb cp
  have HB := Lib.hid (show Below w.heap.size w w14 from hbw.trans ⟨hk514.os, hk514.tape, hk514.output, hk514.size, fun b hb => hk514.block b (hK0 b hb)⟩)
  clear hBa hBb hBp hk14 hk513 hk514 hO2 hT14 hB13 hbw hK0 hp3
  go_wp2_with fail
  refine HR.out.mono ?_
  rintro e w15 ⟨rfl, hw15⟩
  subst w15
  go_wp2_with fail
  go_ret
  exact ⟨rfl, HB.out⟩
end Go.Proofs.YtafopojibpifoaaGreat
