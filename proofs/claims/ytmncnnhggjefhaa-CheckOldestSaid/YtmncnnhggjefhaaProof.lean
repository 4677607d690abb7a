/- CheckOldest answers true for every begin and all tables: the row of the law, proved for every input, with no condition. -/
import Derived.Test.YtmncnnhggjefhaaRows
import Derived.Test.YtmncnnhggjefhaaWalk2
import Derived.Test.YtmncnnhggjefhaaEnd
import Derived.Deep.Slices
import Derived.Deep.Fields
import Derived.ChangeSame
import Derived.Lib.SmallJoins
namespace Go.Proofs.Ytmncnnhggjefhaa
open Go.ChangeShapes Go.WideShapes Go.ChangeAt Go.RowKit Go.Deep Go.Joins

section
variable {H : Type} {enc : TypeId × Value → H} {P : Program} {w : World} {base : Nat} {spare : Nat → Bool} {held : Bool}
theorem open_slice_fields {t e : TypeId} {fs : Array Field} {fuel : Nat} {cs : List Value} {x : DataW H × List MemPlace} (ht : P.underlying t = some (.slice e)) (he : P.underlying e = some (.struct fs))
    (hone : oneCellFields P fs = true) (hC : P.cellsOf e = fs.size) (h : DataW.trod enc P w base spare held fuel t cs = some x) :
    (cs = [.slice none 0 0] ∧ x = (.nil, [])) ∨
    ∃ (a : Addr) (len cap m : Nat) (D : Nat → DataW H) (Pl : Nat → List MemPlace), cs = [.slice (some a) len cap] ∧ base ≤ a.block ∧ len ≤ cap ∧ cap ≤ maxLen ∧ m = (if spare a.block then cap else len) ∧
      x = (.slice ((List.range len).map D) ((List.range (m - len)).map fun j => D (len + j)), MemPlace.row a (m * fs.size) ++ (List.range m).flatMap Pl) ∧
      ∀ i, i < m → ∃ (ys : List (DataW H × List MemPlace)) (n : Nat), D i = .agg (ys.map (·.1)) ∧ Pl i = ys.flatMap (·.2) ∧ ys.length = fs.size ∧
        ∀ (j : Nat) (f : Field), fs[j]? = some f → ∃ (v : Value) (y : DataW H × List MemPlace), w.cell? (a.add (i * fs.size + j)) = some v ∧ ys[j]? = some y ∧ DataW.trod enc P w base spare held n f.type [v] = some y := by
  rcases open_slice ht h with h0 | ⟨a, len, cap, m, n, D, Pl, hcs, hb, hl, hm, hmm, hx, hi⟩
  · exact .inl h0
  · refine .inr ⟨a, len, cap, m, D, Pl, hcs, hb, hl, hm, hmm, by rw [hC] at hx; exact hx, fun i him => ?_⟩
    obtain ⟨cs', hc, ht'⟩ := hi i him
    rw [hC] at hc
    obtain ⟨ys, n', hn', hy, hlen, hyl, hf⟩ := DataW.trod_struct he ht'
    obtain ⟨_, hcl, hat⟩ := World.cells?_some hc
    simp only [Prod.mk.injEq] at hy
    refine ⟨ys, n', hy.1, hy.2, hyl, fun j f hj => ?_⟩
    obtain ⟨ho, hk⟩ := hone_of hone j f hj
    have hjl : j < fs.size := (Array.getElem?_eq_some_iff.1 hj).1
    have hcell := hat j hjl
    have hv : cs'[j]? = some (cs'[j]'(by omega)) := List.getElem?_eq_getElem (by omega)
    have h1 := hf j f hj
    rw [ho, hk] at h1
    have hone' : (cs'.drop j).take 1 = [cs'[j]'(by omega)] := by
      rw [List.drop_eq_getElem_cons (by omega)]
      rfl
    rw [hone'] at h1
    have hys : ys[j]? = some (ys[j]'(by omega)) := List.getElem?_eq_getElem (by omega)
    refine ⟨_, _, ?_, hys, h1.trans hys⟩
    rw [← Go.Deep.add_add, hcell, hv]
end

theorem Try.own : ownKnob Try.prog.godebug = none := by kernel_rfl
theorem Try.laidOut : laidOutB Try.prog = true := by kernel_rfl
theorem Try.cells26 : Try.prog.cellsOf 26 = 4 := by kernel_rfl
theorem Try.cells32 : Try.prog.cellsOf 32 = 2 := by kernel_rfl
theorem Try.cells34 : Try.prog.cellsOf 34 = 4 := by kernel_rfl

def numOf : Option Value → Int
  | some (.int _ n) => n
  | _ => 0

section
variable {H : Type} {enc : TypeId × Value → H} {w : World}
theorem dirty_opened {fuel : Nat} {v : Value} {x : DataW H × List MemPlace}
    (h : DataW.trod enc Try.prog w 0 (fun _ => true) true fuel 23 [v] = some x) :
    ∃ A n c p f, v = .slice A n c ∧ n ≤ maxLen ∧ Rd2 w A n p f := by
  rcases open_slice_fields Try.underlying23 Try.underlying32 (by kernel_rfl) Try.cells32 h with ⟨hcs, _⟩ | ⟨a, len, cap, m, D, Pl, hcs, _, hl, hm, hmm, hx, hi⟩
  · obtain rfl : v = _ := by simpa using hcs
    exact ⟨none, 0, 0, fun _ => 0, fun _ => 0, rfl, by unfold maxLen; omega, ⟨fun h => absurd h (by omega)⟩⟩
  · obtain rfl : v = _ := by simpa using hcs
    simp only [if_true] at hmm
    subst hmm
    refine ⟨some a, len, m, fun i => numOf (w.cell? (a.add (i * 2))), fun i => numOf (w.cell? (a.add (i * 2 + 1))), rfl, by omega, ⟨fun hn => ?_⟩⟩
    have key : ∀ i, i < m → ∃ n1 n2, w.cell? (a.add (i * 2)) = some (.int .u32 n1) ∧ w.cell? (a.add (i * 2 + 1)) = some (.int .u64 n2) := by
      intro i him
      obtain ⟨ys, n, _, _, _, hf⟩ := hi i him
      obtain ⟨v0, y0, hc0, _, ht0⟩ := hf 0 _ rfl
      obtain ⟨v1, y1, hc1, _, ht1⟩ := hf 1 _ rfl
      obtain ⟨n0, e0, _, _⟩ := DataW.trod_int Try.underlying30 ht0
      obtain ⟨n1, e1, _, _⟩ := DataW.trod_int Try.underlying22 ht1
      simp at e0 e1
      subst e0 e1
      exact ⟨n0, n1, hc0, hc1⟩
    obtain ⟨b, off, spot⟩ := a
    obtain ⟨n1, n2, k1, k2⟩ := key 0 (by omega)
    have hspot : spot = none := by simpa [Addr.add] using World.cell?_spot k1
    subst hspot
    refine ⟨b, off, rfl, World.block_lt_of_cell? w _ k1, fun i hin => ?_⟩
    obtain ⟨n1, n2, k1, k2⟩ := key i (by omega)
    have e1 : (⟨b, off, none⟩ : Addr).add (i * 2) = ⟨b, off + i * 2, none⟩ := add_plain _ _ _
    have e2 : (⟨b, off, none⟩ : Addr).add (i * 2 + 1) = ⟨b, off + i * 2 + 1, none⟩ := add_plain _ _ _
    rw [k1, k2]
    rw [e1] at k1
    rw [e2] at k2
    exact ⟨k1, k2⟩

theorem txns_opened {fuel : Nat} {v : Value} {x : DataW H × List MemPlace}
    (h : DataW.trod enc Try.prog w 0 (fun _ => true) true fuel 24 [v] = some x) :
    ∃ A n c t f l x, v = .slice A n c ∧ n ≤ maxLen ∧ Rd4 w A n t f l x := by
  rcases open_slice_fields Try.underlying24 Try.underlying34 (by kernel_rfl) Try.cells34 h with ⟨hcs, _⟩ | ⟨a, len, cap, m, D, Pl, hcs, _, hl, hm, hmm, hx, hi⟩
  · obtain rfl : v = _ := by simpa using hcs
    exact ⟨none, 0, 0, fun _ => 0, fun _ => 0, fun _ => 0, fun _ => 0, rfl, by unfold maxLen; omega, ⟨fun h => absurd h (by omega)⟩⟩
  · obtain rfl : v = _ := by simpa using hcs
    simp only [if_true] at hmm
    subst hmm
    refine ⟨some a, len, m, fun i => numOf (w.cell? (a.add (i * 4))), fun i => numOf (w.cell? (a.add (i * 4 + 1))), fun i => numOf (w.cell? (a.add (i * 4 + 2))), fun i => numOf (w.cell? (a.add (i * 4 + 3))), rfl, by omega, ⟨fun hn => ?_⟩⟩
    have key : ∀ i, i < m → ∃ n0 n1 n2 n3, w.cell? (a.add (i * 4)) = some (.int .u64 n0) ∧ w.cell? (a.add (i * 4 + 1)) = some (.int .u64 n1) ∧ w.cell? (a.add (i * 4 + 2)) = some (.int .u64 n2) ∧ w.cell? (a.add (i * 4 + 3)) = some (.int .u64 n3) := by
      intro i him
      obtain ⟨ys, n, _, _, _, hf⟩ := hi i him
      obtain ⟨v0, y0, hc0, _, ht0⟩ := hf 0 _ rfl
      obtain ⟨v1, y1, hc1, _, ht1⟩ := hf 1 _ rfl
      obtain ⟨v2, y2, hc2, _, ht2⟩ := hf 2 _ rfl
      obtain ⟨v3, y3, hc3, _, ht3⟩ := hf 3 _ rfl
      obtain ⟨n0, e0, _, _⟩ := DataW.trod_int Try.underlying22 ht0
      obtain ⟨n1, e1, _, _⟩ := DataW.trod_int Try.underlying22 ht1
      obtain ⟨n2, e2, _, _⟩ := DataW.trod_int Try.underlying22 ht2
      obtain ⟨n3, e3, _, _⟩ := DataW.trod_int Try.underlying22 ht3
      simp at e0 e1 e2 e3
      subst e0 e1 e2 e3
      exact ⟨n0, n1, n2, n3, hc0, hc1, hc2, hc3⟩
    obtain ⟨b, off, spot⟩ := a
    obtain ⟨n0, n1, n2, n3, k1, _⟩ := key 0 (by omega)
    have hspot : spot = none := by simpa [Addr.add] using World.cell?_spot k1
    subst hspot
    refine ⟨b, off, rfl, World.block_lt_of_cell? w _ k1, fun i hin => ?_⟩
    obtain ⟨n0, n1, n2, n3, k0, k1, k2, k3⟩ := key i (by omega)
    rw [k0, k1, k2, k3]
    rw [add_plain] at k0 k1 k2 k3
    exact ⟨k0, k1, k2, k3⟩
end

set_option maxRecDepth 100000 in
theorem oldest_lifted (os : Os) (started : os.Started) (H : Type) (enc : TypeId × Value → H) :
    ReturnsInHanded {} Try.checked os 3 .any (Rows.checkOldestSpec.pre6 enc Try.prog Try.f3 Rows.checkOldestRow.domain false) (Rows.checkOldestSpec.post enc Try.prog Try.f3 false true false false) := by
  refine returnsInHanded_of_change (C := Try.checked) Try.own started (by kernel_rfl) Try.func3
    (ChangeSpec.witness6 (enc := enc) (C := Try.checked) false ⟨#[], #[.int .u64 0, .agg #[.slice none 0 0, .slice none 0 0, .int .u64 0, .int .u64 0]], []⟩ 8 (by kernel_rfl) (by kernel_rfl) (by kernel_rfl) (by kernel_rfl)) ?_
  intro W base args ds gs before hval0 hW _ _
  have hval : ∀ (j : Nat) t v, Try.f3.params[j]? = some t → args[j]? = some v → Value.okWide Try.prog W .any base t v := hval0
  have hW' := hW
  obtain ⟨p, q, hA0, hV, rfl, hfz, hnd⟩ := hW
  have hA : DataW.TrodAll enc Try.prog W 0 (fun _ => true) true Try.f3.params.toList args.toList ds p := hA0
  rw [Try.params3] at hA hval
  obtain ⟨v0, v1, d0, d1, p0, p1, rfl, rfl, rfl, h0, h1⟩ := trodAll_two hA
  obtain ⟨rfl, rfl⟩ := trodVars_none hV
  obtain ⟨b0, rfl, rfl, rfl, wb⟩ := open_int Try.underlying22 (hval 0 22 v0 rfl rfl) h0
  obtain ⟨c0, c1, c2, c3, y0, y1, y2, y3, m, rfl, rfl, rfl, hy0, hy1, hy2, hy3⟩ := open_agg4 Try.underlying26 (by kernel_rfl) Try.cells26 (hval 1 26 v1 rfl rfl) h1
  obtain ⟨A, nD, cD, pD, fD, rfl, hnD, hD⟩ := dirty_opened hy0
  obtain ⟨B, nT, cT, tT, fT, lT, xT, rfl, hnT, hT⟩ := txns_opened hy1
  obtain ⟨tx, e2, _, _⟩ := DataW.trod_int Try.underlying22 hy2
  obtain ⟨nm, e3, _, _⟩ := DataW.trod_int Try.underlying22 hy3
  simp at e2 e3
  subst e2 e3
  clear hA0 hval0
  have fin : Calls Try.prog 3 #[.int .u64 b0, .agg #[.slice A nD cD, .slice B nT cT, .int .u64 tx, .int .u64 nm]] W fun e w' =>
      e = .returned (.bool true) ∧ Below W.heap.size W w' := by
    by_cases hbig : 100 < nD ∨ 100 < nT
    · exact check_big b0 A B nD cD nT cT tx nm W hnD hnT hbig
    · exact check_small b0 A B nD cD nT cT pD fD tT fT lT xT tx nm W hD hT (by omega) (by omega)
  refine fin.mono fun e W' ⟨he, hb⟩ => ?_
  subst he
  exact ⟨_, rfl, law_post (TB := 4) Try.laidOut (by rw [Try.params3]; intro t ht; simp at ht; rcases ht with rfl | rfl <;> exact ⟨by kernel_rfl, of_decide_eq_true (by kernel_rfl)⟩) Try.underlying4 rfl rfl hW' rfl hb⟩

theorem oldest_holds : Rows.CheckOldestSaid :=
  OpenClaim.holds_of_wide 3 Try.f3 rfl rfl rfl rfl rfl rfl rfl ⟨rfl, rfl, rfl, rfl, rfl⟩ rfl rfl rfl rfl rfl (by kernel_rfl) Try.func3 (by kernel_rfl)
    (of_decide_eq_true (by kernel_rfl)) (by unfold Func.isWrapper; rw [if_neg (of_decide_eq_false (by kernel_rfl))]; exact ⟨rfl, rfl⟩)
    (fun os started H enc _ => oldest_lifted os started H enc)
end Go.Proofs.Ytmncnnhggjefhaa
