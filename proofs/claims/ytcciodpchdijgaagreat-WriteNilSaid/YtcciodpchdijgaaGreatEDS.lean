/- The evaluator says the truth: part D -/
import Derived.Test.YtcciodpchdijgaaGreatECS
set_option linter.constructorNameAsVariable false
set_option linter.unusedVariables false
set_option linter.unusedSimpArgs false
namespace Ev
noncomputable section
open Go
section
variable {T : Tb} {ρ σ : Rho} {h : HP} {w : World} {P : Program} {l : LS} {e : Tr AV} {lv : Nat → Bool} {n m : Nat} {ds : List (Option Nat)} {F : Fence} {cl : Cl} {ops : Array Oper} {kc : (Operand → EO) → Op → KF}

/-! ### regions that draw: the evaluator's order -/
def isMv : Op → Bool
  | .move _ => true | .assign _ => true | _ => false
def loudO (qx : Op → Bool) (o : Op) : Bool := bif isMv o then false else !(qx o)
def codeOf (kc : (Operand → EO) → Op → KF) (ops : Array Oper) (ds : List (Option Nat)) (o : Oper) : KF :=
  match gdOf ops ds o.guard with
  | none => kc (ooOf ds) o.op
  | some (g, w) => kGd g w (kc (ooOf ds) o.op)
def ckL (qx : Op → Bool) (kc : (Operand → EO) → Op → KF) (ops : Array Oper) (b : Array Nat) (ds : List (Option Nat)) (i : Nat) : Nat → List Nat → List (Nat × KF)
  | _, [] => []
  | k, q :: r => match ops[q]? with
    | some o => bif qx o.op && !(bef b q i) then (k, codeOf kc ops ds o) :: ckL qx kc ops b ds i (Nat.add k 1) r else ckL qx kc ops b ds i (Nat.add k 1) r
    | none => ckL qx kc ops b ds i (Nat.add k 1) r
def ckC : List (Nat × KF) → EL → EL
  | [], r => r
  | k :: ks, r => .ck (k :: ks) r
def aftIn (done : List Nat) : List Edge → Bool
  | [] => true
  | e :: r => (!(Region.binds .any e) || done.any (Nat.beq e.on)) && aftIn done r
/-- what might come early: can it be done? -/
def pkL (eo : Op → Bool) (kc : (Operand → EO) → Op → KF) (ops : Array Oper) (ds : List (Option Nat)) (done : List Nat) : List Nat → List KF
  | [] => []
  | a :: r => match ops[a]? with
    | some o => bif eo o.op && aftIn done o.after.toList then kc (ooOf ds) o.op :: pkL eo kc ops ds done r else pkL eo kc ops ds done r
    | none => pkL eo kc ops ds done r
def pkC : List KF → EL → EL
  | [], r => r
  | k :: ks, r => .pk (k :: ks) r
def dlOf (qx eo : Op → Bool) (kc : (Operand → EO) → Op → KF) (lv : Nat → Bool) (ops : Array Oper) (b : Array Nat) : List Nat → List (Option Nat) → List Nat → EL
  | _, _, [] => .nil
  | done, ds, i :: r => match ops[i]? with
    | none => .s kBad .nil
    | some o => pkC (bif loudO qx o.op then pkL eo kc ops ds done r else []) (elC (gdOf ops ds o.guard) (lvD lv o.dst) (ocOf false kc (ooOf ds) o.op)
        (ckC (bif isMv o.op then [] else bif qx o.op then [(0, codeOf kc ops (o.dst :: ds) o)] else ckL qx kc ops b (o.dst :: ds) i 1 done)
          (dlOf qx eo kc lv ops b (i :: done) (o.dst :: ds) r)))
/-- one turn of the order is well chosen -/
structure TurnOk (qx eo : Op → Bool) (ops : Array Oper) (n : Nat) (b : Array Nat) (done : List Nat) (i : Nat) (o : Oper) : Prop where
  new : i ∉ done
  after : ∀ e ∈ o.after, Region.binds .any e = true → e.on ∈ done
  loud : eo o.op = true ∨ ∀ g ∈ done, ∀ o', ops[g]? = some o' → loudO qx o'.op = true → bef b g i = true
  eov : eo o.op = true → o.guard = none ∧ ∀ t ∈ o.looksAt ops, ∀ j, wrt ops t = some j → bef b j i = true
  again : loudO qx o.op = true → ∀ q ∈ done, ∀ o', ops[q]? = some o' → qx o'.op = true → bef b q i = false → ∀ t ∈ o'.looksAt ops, ∀ j, wrt ops t = some j → bef b q j = true → j ∉ i :: done
inductive Chk (qx eo : Op → Bool) (ops : Array Oper) (n : Nat) (b : Array Nat) : List Nat → List Nat → Prop
  | nil (done : List Nat) : Chk qx eo ops n b done []
  | cons {done : List Nat} {i : Nat} {o : Oper} {r : List Nat} (ho : ops[i]? = some o) (h : TurnOk qx eo ops n b done i o) (hp : loudO qx o.op = true → ∀ a ∈ r, ∀ oa, ops[a]? = some oa → eo oa.op = true → bef b i a = true ∨ aftIn done oa.after.toList = true) (t : Chk qx eo ops n b (i :: done) r) : Chk qx eo ops n b done (i :: r)
/-- the whole order is -/
structure RegOk (qx eo : Op → Bool) (ops : Array Oper) (n : Nat) (b : Array Nat) (ord : List Nat) : Prop where
  bq : b = Region.before ops
  uniq : Uniq ops
  rd : RdOk ops b
  dok : ∀ (i : Nat) (o : Oper), ops[i]? = some o → dOk n o.dst = true
  cover : ∀ i < ops.size, i ∈ ord
  chk : Chk qx eo ops n b [] ord

/-! what is as it was -/
theorem Post.below {w' : World} (g : Good T ρ h w) (hb : Go.RowKit.Below w.heap.size w w') : Post T ρ h w ρ h w' := by
  have hg : Good T ρ h w' := ⟨fun i hi => by
    obtain ⟨l, o, h1, h2, h3⟩ := g.blk i hi
    refine ⟨l, o, h1, ?_, h3⟩
    rw [hb.block _ (by have := (Array.getElem?_eq_some_iff.1 h2).1; exact this)]; exact h2, g.inj, g.dom⟩
  exact ⟨Rho.le_refl _, hg, Nat.le_refl _, fun _ _ e _ => e, hb.size, fun r hr _ => hb.block r hr, fun i l hl e => .inl ⟨i, l, hl, e, rfl⟩, hb.os, hb.tape, hb.output⟩
/-! ### an operation that only looks, or leaves what nobody knows -/
def KqOk (T : Tb) (P : Program) (F : Fence) (m : Nat) (cl : Cl) (qx : Op → Bool) (kc : (Operand → EO) → Op → KF) : Prop :=
  ∀ (ρ : Rho) (h : HP) (w : World) (l : LS) (e : Tr AV) (ro : Operand → Value) (K : Kv) (oo : Operand → EO) (o : Oper),
    Good T ρ h w → (∀ x, VR ρ (rd l e (oo x)) (ro x)) → qx o.op = true → kc oo o.op cl l e h K = .yes →
    ∃ v x, K v h = .yes ∧ VR ρ v x ∧ ∀ (a : Act) (next : Act → World → Prop), (∀ x ∈ o.op.operands, a.eval x = ro x) → (∀ x w', VR ρ v x → Go.RowKit.Below w.heap.size w w' → next (a.put o.dst x) w') → Jop F m P o a w next
/-- an operation that may do anything: messages, too -/
def KmOk (T : Tb) (P : Program) (F : Fence) (m : Nat) (cl : Cl) (kc : (Operand → EO) → Op → KF) : Prop :=
  ∀ (ρ : Rho) (h : HP) (w : World) (l : LS) (e : Tr AV) (a a' : Act) (K : Kv) (oo : Operand → EO) (o : Oper) (next : Act → World → Prop),
    Good T ρ h w → (∀ x, VR ρ (rd l e (oo x)) (a'.eval x)) → (∀ x ∈ o.op.operands, a.eval x = a'.eval x) → kc oo o.op cl l e h K = .yes →
    (∀ v σ h' w' x, K v h' = .yes → Post T ρ h w σ h' w' → VR σ v x → next (a.put o.dst x) w') → Jop F m P o a w next
theorem km_of (hkc : KcOk T P F m cl kc) : KmOk T P F m cl kc := fun ρ h w l e a a' K oo o next g hr ha hy hn => jop_of (hkc ρ h w l e a a'.eval K oo o next _ g hr ha hy hn)
/-! every order, in a frame that is no early one -/
def wpOpJ (F : Fence) (m : Nat) (P : Program) (ops : Array Oper) (i : Nat) (K : Act → World → Prop) (a : Act) (w : World) : Prop :=
  match ops[i]? with
  | none => K a w
  | some o => if Region.wanted o (yielded ops a.tmps) = true then Jop F m P o a w K else (∀ f, o.about P w a.eval = some f → F.fn f) ∧ K (a.put o.dst undef) w
def jAny (F : Fence) (m : Nat) (P : Program) (md : Region.Mode) (ops : Array Oper) (Q : Exit → Act → World → Prop) : Nat → Array Bool → Act → World → Prop
  | 0, listed, a, w => Region.ready md ops listed = [] ∧ Q .normal a w
  | fuel + 1, listed, a, w =>
    (Region.ready md ops listed = [] → Q .normal a w) ∧
    ∀ i ∈ Region.ready md ops listed, wpOpJ F m P ops i (jAny F m P md ops Q fuel (listed.setIfInBounds i true)) a w
theorem jr_cons {Q : Exit → Act → World → Prop} {i : Nat} {r : List Nat} {a : Act} {Kn : Act → World → Prop} (hi : i < ops.size) (hn : ∀ a w, Kn a w → Jr F m P ops Q r a w) (h : wpOpJ F m P ops i Kn a w) : Jr F m P ops Q (i :: r) a w := by
  have ho : ops[i]? = some ops[i] := Array.getElem?_eq_getElem hi
  unfold wpOpJ at h
  rw [ho] at h
  dsimp only at h
  split at h
  · rename_i hw; exact h ops i r Q ho hw hn
  · rename_i hw; exact j_skip ho (by simpa using hw) h.1 (hn _ _ h.2)
theorem jAny_sound {md : Region.Mode} {Q : Exit → Act → World → Prop} : ∀ (fuel t : Nat) (listed : Array Bool) (a : Act) (w : World), jAny F m P md ops Q fuel listed a w → Jr F m P ops Q (Region.linearise.go md ops fuel t listed []) a w := by
  intro fuel
  induction fuel with
  | zero => intro t listed a w h; simpa [Region.linearise.go] using j_nil (ops := ops) h.2
  | succ fuel ih =>
    intro t listed a w h
    obtain ⟨h0, h1⟩ := h
    simp only [Region.linearise.go]
    change Jr F m P ops Q (match (Region.ready md ops listed)[t % (Region.ready md ops listed).length]? with
      | some i => Region.linearise.go md ops fuel (t / (Region.ready md ops listed).length) (listed.setIfInBounds i true) [i]
      | none => [].reverse) a w
    cases hi : (Region.ready md ops listed)[t % (Region.ready md ops listed).length]? with
    | none =>
      have hnil : Region.ready md ops listed = [] := by
        cases hr : Region.ready md ops listed with
        | nil => rfl
        | cons x xs =>
          rw [hr] at hi
          have hlt : t % (x :: xs).length < (x :: xs).length := Nat.mod_lt _ (by simp)
          simp at hi
          simp at hlt
          omega
      simpa using j_nil (ops := ops) (h0 hnil)
    | some i =>
      simp only []
      rw [linearise_go_acc, List.reverse_singleton, List.singleton_append]
      have hm : i ∈ Region.ready md ops listed := List.mem_of_getElem? hi
      have hlt : i < ops.size := by
        have : i ∈ List.range ops.size := (List.mem_filter.1 hm).1
        simpa using this
      exact jr_cons hlt (fun a w => ih _ _ a w) (h1 i hm)
theorem j_region_any {id : Nat} {Q : Exit → Act → World → Prop} {a : Act} (hm : P.follows .mixedOrders = true) (h : jAny F m P .any ops Q ops.size (Array.replicate ops.size false) a { w with drawn := w.drawn + 1 }) : Jc F m P (.region id ops true) Q a w := by
  have h' : ∀ t, Jr F m P ops Q (Region.schedule (P.follows .mixedOrders) ops t) a { w with drawn := w.drawn + 1 } := fun t => by
    simp only [Region.schedule, hm, Bool.true_or, if_true]
    exact jAny_sound ops.size t _ a _ h
  intro b k cs h0 h1 h2 h3
  obtain ⟨e, a1, w1, q, r⟩ := (h' _) b k cs h0 h1 h2 h3
  exact ⟨e, a1, w1, q, .of_steps (.one (fenced_calm h2 h3 rfl) stepR_region_draw) r⟩
/-- no move, no defer -/
def QxOk (qx : Op → Bool) : Prop := ∀ o, qx o = true → isMv o = false ∧ ∀ c, o ≠ .defer c
theorem kC_quiet {oo : Operand → EO} {o : Op} (hq : quiet P o = true) : kC P oo o = kF P oo o := by
  unfold kC
  cases o with
  | call c =>
    obtain ⟨ca, ar, at_⟩ := c
    cases ca with
    | builtin bb => rfl
    | value f => cases hq
    | invoke a bb => cases hq
  | _ => rfl
theorem quiet_qx : QxOk (quiet P) := fun o ho => ⟨(by cases o <;> first | rfl | (cases ho)), fun c hc => (by rw [hc] at ho; cases ho)⟩
theorem kC_qok (hF : ∀ f, F.fn f) : KqOk T P F m cl (quiet P) (kC P) := by
  intro ρ h w l e ro K oo o g hr hq hy
  rw [kC_quiet hq] at hy
  obtain ⟨v, k, σ, u, h1, ⟨h2, h3⟩, h4⟩ := op_okF g hr hy
  obtain ⟨rfl, rfl, rfl⟩ := h3 hq
  have key : ∀ (a : Act), (∀ x ∈ o.op.operands, a.eval x = ro x) → (o.semAt F.round a.eval).run P u = (execOp ro o).run P u := fun a ha => by
    rw [Oper.semAt_eq _ _ _ (fun c hc => by rw [hc] at hq; cases hq), execOp_congr o (fun cs bb hc => by rw [hc] at hq; cases hq) ha]
  rcases h4 with ⟨x, hv, hrun⟩ | ⟨rfl, hrun⟩
  · refine ⟨v, x, h1, hv, fun a next ha hn => jop_of ⟨about_ok hF o a u, ?_⟩⟩
    rw [key a ha, hrun]; exact hn x u hv (.refl _ _)
  · refine ⟨.un, undef, h1, .un _, fun a next ha hn => jop_of ⟨about_ok hF o a u, ?_⟩⟩
    rw [key a ha, hrun]; exact hn undef u (.un _) (.refl _ _)
/-- the same operation in two frames that hold the same where it looks -/
theorem wanted_same {o : Oper} {tm tm' : Array Value} (h : ∀ t ∈ o.looksAt ops, tm.getD t undef = tm'.getD t undef) : Region.wanted o (yielded ops tm) = Region.wanted o (yielded ops tm') := by
  unfold Region.wanted
  cases hg : o.guard with
  | none => rfl
  | some q =>
    obtain ⟨j, bb⟩ := q
    have hy : yielded ops tm j = yielded ops tm' j := by
      unfold yielded
      cases ht : (ops[j]?).bind (·.dst) with
      | none => rfl
      | some t =>
        have := h t (by simp [Oper.looksAt, hg, ht])
        simp only [Option.bind_some]
        rw [Array.getD_eq_getD_getElem?, Array.getD_eq_getD_getElem?] at this
        cases h1 : tm[t]? with
        | none =>
          rw [h1] at this
          cases h2 : tm'[t]? with
          | none => rfl
          | some y => rw [h2] at this; have this : undef = y := this; subst this; rfl
        | some x =>
          rw [h1] at this
          cases h2 : tm'[t]? with
          | none => rw [h2] at this; have this : x = undef := this; subst this; rfl
          | some y => rw [h2] at this; have this : x = y := this; subst this; rfl
    simp only [hy]
theorem eval_same {o : Oper} {a a' : Act} (h : ∀ t ∈ o.looksAt ops, a.tmps.getD t undef = a'.tmps.getD t undef) : ∀ x ∈ o.op.operands, a.eval x = a'.eval x := by
  intro x hx
  cases x with
  | tmp t => exact h t (List.mem_append_left _ (List.mem_filterMap.2 ⟨.tmp t, by simpa using hx, rfl⟩))
  | _ => rfl
/-- a frame that holds this one's where it is looked, and is the evaluator's elsewhere -/
theorem LR.mix {tm : Array Value} (r : LR lv n ρ ds l e tm) {a : Act} (hs : a.tmps.size = n) (R : List Nat) (hR : ∀ t ∈ R, VR ρ (rd l e (toOf ds t)) (a.tmps.getD t undef)) :
    ∃ a' : Act, LR lv n ρ ds l e a'.tmps ∧ ∀ t ∈ R, a.tmps.getD t undef = a'.tmps.getD t undef := by
  refine ⟨{ a with tmps := Array.ofFn (n := n) fun i => if i.val ∈ R then a.tmps.getD i.val undef else tm.getD i.val undef }, ?_, ?_⟩
  · refine ⟨fun t => ?_, r.live, r.dead, by simp⟩
    rw [Array.getD_eq_getD_getElem?, Array.getElem?_ofFn]
    by_cases ht : t < n
    · rw [dif_pos ht, Option.getD_some]
      dsimp only
      split
      · rename_i h; exact hR t h
      · exact r.rel t
    · rw [dif_neg ht, Option.getD_none]
      have := r.rel t
      rw [Array.getD_eq_getD_getElem?, Array.getElem?_eq_none (by rw [r.size]; omega), Option.getD_none] at this
      exact this
  · intro t ht
    show _ = (Array.ofFn _).getD t undef
    rw [Array.getD_eq_getD_getElem? (xs := Array.ofFn _), Array.getElem?_ofFn]
    by_cases h : t < n
    · rw [dif_pos h, Option.getD_some]; dsimp only; rw [if_pos ht]
    · rw [dif_neg h, Option.getD_none, Array.getD_eq_getD_getElem?, Array.getElem?_eq_none (by omega), Option.getD_none]
end
end
end Ev
namespace Ev
noncomputable section
open Go
section
variable {T : Tb} {P : Program} {qx : Op → Bool} {lv : Nat → Bool} {n m : Nat} {F : Fence} {cl : Cl} {ops : Array Oper} {kc : (Operand → EO) → Op → KF} {b : Array Nat} {a0 : Nat → AV}

/-! ### an operation that the evaluator has done, and the machine not yet -/
def PMv (kc : (Operand → EO) → Op → KF) (ops : Array Oper) (ds : List (Option Nat)) (l : LS) (e : Tr AV) (o : Oper) (v : AV) : Prop :=
  ∃ x, (o.op = .move x ∨ o.op = .assign x) ∧ ((gT l e (gdOf ops ds o.guard) ∧ rd l e (ooOf ds x) = v) ∨
    (∃ g bb, gdOf ops ds o.guard = some (g, bb) ∧ (rd l e g = .ud ∨ rd l e g = .bo (!bb)) ∧ v = .ud))
def PI (qx : Op → Bool) (lv : Nat → Bool) (n : Nat) (cl : Cl) (ops : Array Oper) (kc : (Operand → EO) → Op → KF) (b : Array Nat) (a0 : Nat → AV) (done : List Nat) (ρ : Rho) (h : HP) (vs : Nat → AV) (q : Nat) : Prop :=
  ∃ o ds l e tm S, ops[q]? = some o ∧ LR lv n ρ ds l e tm ∧ (∀ j, S j → j ∈ done) ∧ (∀ t ∈ o.looksAt ops, rd l e (toOf ds t) = aval ops a0 vs S t) ∧ Cons ops b q S ∧
    (PMv kc ops ds l e o (vs q) ∨ (qx o.op = true ∧ codeOf kc ops ds o cl l e h (fun v _ => R.of (AV.same v (vs q))) = .yes))
variable {ρ σ : Rho} {h h' : HP} {w w' : World} {vs : Nat → AV} {done : List Nat} {L : Nat → Prop} {a : Act}
theorem PI.more {vs' : Nat → AV} {done' : List Nat} {q : Nat} (p : PI qx lv n cl ops kc b a0 done ρ h vs q) (hq : vs' q = vs q) (hd : ∀ j ∈ done, j ∈ done' ∧ vs' j = vs j) : PI qx lv n cl ops kc b a0 done' ρ h vs' q := by
  obtain ⟨o, ds, l, e, tm, S, h1, h2, h3, h4, h5, h6⟩ := p
  refine ⟨o, ds, l, e, tm, S, h1, h2, fun j hj => (hd j (h3 j hj)).1, fun t ht => ?_, h5, by rw [hq]; exact h6⟩
  rw [h4 t ht, aval_chg fun j hj => (hd j (h3 j hj)).2]
theorem same_of {v u : AV} (hs : R.of (AV.same v u) = .yes) : v = u := by
  cases hh : AV.same v u with
  | true => exact AV.same_eq _ _ hh
  | false => rw [hh] at hs; cases hs
/-- ITS TURN COMES -/
theorem PI.go (hF : ∀ f, F.fn f) (hkq : KqOk T P F m cl qx kc) (hrd : RdOk ops b) {q : Nat} (p : PI qx lv n cl ops kc b a0 done ρ h vs q) (g : Good T ρ h w) (ha : AR ops n a0 vs ρ L a.tmps) (hc : Cons ops b q L) {K : Act → World → Prop}
    (hK : ∀ o x w', ops[q]? = some o → VR ρ (vs q) x → Go.RowKit.Below w.heap.size w w' → K (a.put o.dst x) w') : wpOpJ F m P ops q K a w := by
  obtain ⟨o, ds, l, e, tm, S, ho, hr, h3, h4, h5, h6⟩ := p
  unfold wpOpJ
  rw [ho]
  dsimp only
  obtain ⟨a', hr', hsame⟩ := hr.mix ha.size (o.looksAt ops) (fun t ht => by rw [h4 t ht, reads_eq hrd ho h5 hc t ht]; exact ha.rel t)
  have hwant := wanted_same (o := o) hsame
  have heval := eval_same (o := o) hsame
  have hnone : Region.wanted o (yielded ops a.tmps) = false → VR ρ (vs q) undef → (∀ f, o.about P w a.eval = some f → F.fn f) ∧ K (a.put o.dst undef) w := fun _ hv => ⟨about_ok hF o a w, hK o undef w ho hv (.refl _ _)⟩
  rcases h6 with ⟨x, hx, ⟨hg, hv⟩ | ⟨g', bb, hg, h2, hv⟩⟩ | ⟨hq, hy⟩
  · rw [hwant, if_pos ((gd_ok hr').1 hg)]
    refine jop_of (move_ok hF hx (hK o _ w ho ?_ (.refl _ _)))
    rw [← hv, heval x (by rcases hx with hx | hx <;> rw [hx] <;> simp [Op.operands])]
    exact hr'.oo rfl x
  · rw [hwant, if_neg (by rw [(gd_ok hr').2 g' bb hg h2]; simp)]
    exact ⟨about_ok hF o a w, hK o undef w ho (by rw [hv]; exact .ud) (.refl _ _)⟩
  · have run : kc (ooOf ds) o.op cl l e h (fun v _ => R.of (AV.same v (vs q))) = .yes → Jop F m P o a w K := by
      intro hy
      obtain ⟨v, x, hv, _, hrun⟩ := hkq ρ h w l e a'.eval _ (ooOf ds) o g (hr'.oo rfl) hq hy
      have hv := same_of hv
      subst hv
      exact hrun a K heval (fun x w' hx hb => hK o x w' ho hx hb)
    unfold codeOf at hy
    cases hg : gdOf ops ds o.guard with
    | none =>
      rw [hg] at hy
      rw [hwant, if_pos ((gd_ok hr').1 (by rw [hg]; trivial))]
      exact run hy
    | some gq =>
      obtain ⟨g', bb⟩ := gq
      rw [hg] at hy
      have hy : gd bb (kc (ooOf ds) o.op cl l e h _) (R.of (AV.same .ud (vs q))) (rd l e g') = .yes := hy
      rcases gd_inv hy with ⟨h1, h2⟩ | ⟨h1, h2⟩
      · rw [hwant, if_pos ((gd_ok hr').1 (by rw [hg]; exact h1))]
        exact run h2
      · rw [hwant, if_neg (by rw [(gd_ok hr').2 g' bb hg h1]; simp)]
        exact ⟨about_ok hF o a w, hK o undef w ho (by rw [← same_of h2]; exact .ud) (.refl _ _)⟩
end
end
end Ev
namespace Ev
noncomputable section
open Go
section
variable {T : Tb} {ρ σ : Rho} {h : HP} {w : World} {P : Program} {l : LS} {e : Tr AV} {cl : Cl}

/-! ### what is laid anew, wherever it stands: it may come early -/
def Early (T : Tb) (P : Program) (ρ : Rho) (h : HP) (K : Kv) (s : Sem Value) : Prop :=
  ∃ (xf : Nat → Value) (obj : Obj) (ab : AB) (v : AV) (sz : Nat), (∀ w, s.run P w = .ok (xf w.heap.size) (w.alloc obj)) ∧ K v (h.new ab) = .yes ∧
    ∀ (r : Nat) (σ : Rho), ρ.le σ → σ h.nx = some ⟨r, 0, sz⟩ → BR T σ ⟨r, 0, sz⟩ ab obj ∧ VR σ v (xf r)
theorem e_alloc {K : Kv} {z : CV} {ty : TypeId} (hk : K (.pt h.nx 0) (h.new (.cells z ty true false)) = .yes) {zv : Value} (hz : zrOf P ty = some zv) (hzr : AL ρ z.exp zv.cells.toList) (hw : z.wf) : Early T P ρ h K (Instr.alloc ty true (.tuple #[])) := by
  refine ⟨fun r => .pointer (some ⟨r, 0, none⟩), .cells zv.cells.toList.toArray ty, _, _, zv.cells.toList.length, fun w => by simp [Instr.alloc, run_zero hz, newVar, newRow], hk, fun r σ hle hs => ⟨?_, ?_⟩⟩
  · exact .cells (pre := []) (xs := zv.cells.toList) (post := []) (by simp) rfl (hzr.mono hle) hw (by simp) (fun _ => ⟨rfl, rfl⟩) (fun _ j _ => by simp)
  · have := VR.pt (ρ := σ) 0 hs; simpa using this
theorem e_bsl {K : Kv} {z : CV} {ps : Pt} {qs : Array (Nat × Value)} {t el : TypeId} {n m : Nat} {zv : Value} (hk : fill l e (fun c => K (.sl h.nx 0 n n true m) (h.new (.cells c el true false))) ps z = .yes)
    (hu : P.underlying t = some (.slice el)) (hm : szOf P el = some m) (hle : n * m ≤ 2 ^ 24) (hz : zrOf P el = some zv) (hzs : zv.cells.size = m)
    (hzr : AL ρ z.exp ((Array.range (n * m)).map (zv.cells[· % zv.cells.size]!)).toList) (hw : z.wf) (hps : PL ρ l e (fun i => some (i * m, m)) ps qs.toList) : Early T P ρ h K (Instr.buildSlice t n qs) := by
  obtain ⟨c, cs, hk, hc, hcw, hlen, hf⟩ := fill_ok hps hzr hw hk
  have hsz : cs.toList.length = n * m := by rw [← hc.length, hlen, hzr.length]; simp
  refine ⟨fun r => .slice (some ⟨r, 0, none⟩) n n, .cells cs.toList.toArray el, _, _, cs.toList.length, fun w => ?_, hk, fun r σ hle hs => ⟨?_, ?_⟩⟩
  · have hgt : ¬ (n * m > 2 ^ 24) := by omega
    simp only [Instr.buildSlice, Sem.run_bind, run_und hu, run_size hm, Result.andThen_ok]
    rw [if_neg (by simpa using hgt)]
    by_cases h0 : n * m = 0
    · have he : ((Array.range (n * m)).map (zv.cells[· % zv.cells.size]!)) = #[] := by rw [h0]; simp
      rw [he] at hf
      simp only [h0, if_true]
      have he' : ((Array.range 0).map ((#[] : Array Value)[· % (#[] : Array Value).size]!)) = #[] := by simp
      simp only [pure_bind, he', hf]
      simp [newRow]
    · simp only [h0, if_false, Sem.run_bind, run_zero hz, Result.andThen_ok, Sem.run_pure]
      rw [hf]
      simp [newRow]
  · exact .cells (pre := []) (xs := cs.toList) (post := []) (by simp) rfl (hc.mono hle) hcw (by simp) (fun _ => ⟨rfl, rfl⟩) (fun _ j _ => by simp)
  · have := VR.sl (ρ := σ) (off := 0) (len := n) (cap := n) (esz := m) (c := n) (ex := true) hs (fun _ => rfl) (Nat.le_refl _) (Nat.le_refl _) (by simpa using Nat.le_of_eq hsz.symm)
    simpa using this
theorem e_mkmap {K : Kv} (hk : K (.mp h.nx) (h.new (.map [] 0)) = .yes) {t : TypeId} {r : Option Value} (hr : r = none ∨ ∃ a b n k, r = some (.int k n) ∧ P.underlying t = some (.map a b)) : Early T P ρ h K (Instr.makeMap t r) := by
  refine ⟨fun r => .map (some r), .map #[] 0, _, _, 0, fun w => ?_, hk, fun r σ hle hs => ⟨.map .nil, .mp hs⟩⟩
  rcases hr with rfl | ⟨a, b, n, k, rfl, hu⟩
  · simp [Instr.makeMap]
  · simp [Instr.makeMap, run_und hu, asInt, asIntOf]
theorem e_chan {K : Kv} {v : AV} {x : Value} (hv : VR ρ v x) (hk : nat v (fun n => bf (Nat.ble n 100000) (K (.ch h.nx) (h.new (.chan n .nil 0 0))) .no) = .yes) {t el : TypeId} {d : ChanDir} {i : TypeInfo} (hu : P.underlying t = some (.chan d el)) (hi : P.info? el = some i) (hb : i.bytes ≤ 1000) : Early T P ρ h K (Instr.makeChan t x) := by
  obtain ⟨k, n, rfl, hk⟩ := nat_inv hk
  obtain ⟨hn, hk⟩ := bf_yes' hk
  have hn : n ≤ 100000 := by simpa using hn
  cases hv
  refine ⟨fun r => .chan (some r), .chan n #[] false 0 0 false, _, _, 0, fun w => ?_, hk, fun r σ hle hs => ⟨.chan .nil trivial, .ch hs⟩⟩
  have hmul : (i.bytes : Int) * (n : Int) ≤ 1000 * 100000 := by
    have h1 : i.bytes * n ≤ 1000 * 100000 := Nat.mul_le_mul hb hn
    have h2 : (i.bytes : Int) * (n : Int) = ((i.bytes * n : Nat) : Int) := (Int.natCast_mul _ _).symm
    omega
  simp only [Instr.makeChan, asInt, asIntOf, Sem.run_bind, Sem.run_pure, Result.andThen_ok, run_und hu, run_info hi, Int.ofNat_eq_natCast]
  have hmx : IntKind.i64.max = 9223372036854775807 := by rfl
  rw [if_neg (by rw [hmx]; rintro (h' | h' | h') <;> omega)]
  simp
/-- which operations may -/
def eoK (o : Op) : Bool := match o with
  | .alloc _ => true | .buildSlice .. => true | .makeMap .. => true | .makeChan .. => true | _ => false
def EarlyOp (T : Tb) (P : Program) (ρ : Rho) (h : HP) (K : Kv) (s : Sem Next) : Prop :=
  ∃ (xf : Nat → Value) (obj : Obj) (ab : AB) (v : AV) (sz : Nat), (∀ w, s.run P w = .ok (.value (xf w.heap.size)) (w.alloc obj)) ∧ K v (h.new ab) = .yes ∧
    ∀ (r : Nat) (σ : Rho), ρ.le σ → σ h.nx = some ⟨r, 0, sz⟩ → BR T σ ⟨r, 0, sz⟩ ab obj ∧ VR σ v (xf r)
theorem Early.op {K : Kv} {s : Sem Value} (a : Early T P ρ h K s) : EarlyOp T P ρ h K (do pure (.value (← s))) := by
  obtain ⟨xf, obj, ab, v, sz, h1, h2, h3⟩ := a
  exact ⟨xf, obj, ab, v, sz, fun w => by simp [h1], h2, h3⟩
theorem kC_early {K : Kv} {oo : Operand → EO} {ro : Operand → Value} {o : Oper} (heo : eoK o.op = true) (hr : ∀ x, VR ρ (rd l e (oo x)) (ro x)) (hy : kC P oo o.op cl l e h K = .yes) : EarlyOp T P ρ h K (execOp ro o) := by
  obtain ⟨dst, op, ty, pos, after, gd⟩ := o
  cases op with
  | alloc t =>
    have hy : oBad (kOf2 P oo (.alloc t)) cl l e h K = .yes := hy
    obtain ⟨k, hk, hy⟩ := oBad_inv hy
    have hk : kOf P oo (.alloc t) = some k := hk
    unfold kOf at hk
    dsimp only at hk
    cases hz : zcl P t with
    | none => rw [hz] at hk; cases hk
    | some z =>
      rw [hz] at hk; cases hk
      obtain ⟨zv, hz', ha, hw⟩ := zcl_inv (ρ := ρ) hz
      exact Early.op (e_alloc hy hz' ha hw)
  | buildSlice t n xs =>
    have hy : oBad (bslOf P oo t n xs.toList) cl l e h K = .yes := hy
    obtain ⟨k, hk, hy⟩ := oBad_inv hy
    unfold bslOf at hk
    split at hk
    · rename_i el hu
      split at hk
      · rename_i m zv hm hz
        split at hk
        · rename_i ps hps
          cases hb : (Nat.ble (Nat.mul n m) 16777216 && Nat.beq zv.cells.size m) with
          | true =>
            rw [hb] at hk; cases hk
            simp only [Bool.and_eq_true, Nat.beq_eq] at hb
            have hps := ptOf_ok hr hps
            exact Early.op (e_bsl hy hu hm (Nat.le_of_ble_eq_true hb.1) hz hb.2 (cvL_ok _ _).1 (cvL_ok (ρ := ρ) _ _).2 (by simpa using hps))
          | false => rw [hb] at hk; cases hk
        · cases hk
      · cases hk
    · cases hk
  | makeMap t r =>
    have hy : oBad (kOf2 P oo (.makeMap t r)) cl l e h K = .yes := hy
    obtain ⟨k, hk, hy⟩ := oBad_inv hy
    cases r with
    | none =>
      have hk : kOf P oo (.makeMap t none) = some k := hk
      have hk : some kMkmap = some k := hk
      cases hk
      exact Early.op (e_mkmap hy (.inl rfl))
    | some x =>
      unfold kOf2 at hk
      dsimp only at hk
      split at hk
      · rename_i ht
        cases hk
        have hy : nat (rd l e (oo x)) (fun _ => K (.mp h.nx) (h.new (.map [] 0))) = .yes := hy
        obtain ⟨k, m, hx, hy⟩ := nat_inv hy
        have hv := hr x
        rw [hx] at hv
        simp only [execOp, Option.map_some]
        generalize ro x = y at hv
        cases hv
        exact Early.op (e_mkmap hy (.inr ⟨_, _, _, _, rfl, ht⟩))
      · cases hk
  | makeChan t v =>
    have hy : oBad (kOf2 P oo (.makeChan t v)) cl l e h K = .yes := hy
    obtain ⟨k, hk, hy⟩ := oBad_inv hy
    unfold kOf2 at hk
    dsimp only at hk
    split at hk
    · rename_i ht
      split at hk
      · rename_i i hi
        cases hb : Nat.ble i.bytes 1000 with
        | true => rw [hb] at hk; cases hk; exact Early.op (e_chan (hr _) hy ht hi (by simpa using hb))
        | false => rw [hb] at hk; cases hk
      · cases hk
    · cases hk
  | _ => cases heo
end
end
end Ev
namespace Ev
noncomputable section
open Go
section
variable {T : Tb} {P : Program} {qx eo : Op → Bool} {rr : Nat → Nat} {lv : Nat → Bool} {n m : Nat} {F : Fence} {cl : Cl} {ops : Array Oper} {kc : (Operand → EO) → Op → KF} {b : Array Nat} {a0 : Nat → AV}
variable {K : Ct} {d : Df} {dl : List Deferred} {ρ0 : Rho} {h0 : HP} {w0 : World}

/-! ### the evaluator's order and the machine's -/
/-- an operation that is done, and not yet the evaluator's -/
def EaR (P : Program) (ops : Array Oper) (eo : Op → Bool) (ρ : Rho) (h : HP) (w0 w : World) (a : Act) (rr : Nat → Nat) (q : Nat) : Prop :=
  ∃ (o : Oper) (xf : Nat → Value) (obj : Obj) (a1 : Act), ops[q]? = some o ∧ eo o.op = true ∧ (∀ w, (execOp a1.eval o).run P w = .ok (.value (xf w.heap.size)) (w.alloc obj)) ∧
    (∀ t ∈ o.looksAt ops, a1.tmps.getD t undef = a.tmps.getD t undef) ∧ (∀ d, o.dst = some d → a.tmps.getD d undef = xf (rr q)) ∧
    w0.heap.size ≤ rr q ∧ rr q < w.heap.size ∧ w.heap[rr q]? = some obj ∧ ∀ i l, h.live i → ρ i = some l → l.blk ≠ rr q
structure St (T : Tb) (P : Program) (qx eo : Op → Bool) (rr : Nat → Nat) (lv : Nat → Bool) (n : Nat) (cl : Cl) (ops : Array Oper) (kc : (Operand → EO) → Op → KF) (b : Array Nat) (a0 : Nat → AV) (K : Ct) (d : Df) (dl : List Deferred) (ρ0 : Rho) (h0 : HP) (w0 : World)
    (done : List Nat) (ds : List (Option Nat)) (rest : List Nat) (l : LS) (e : Tr AV) (ρ : Rho) (h : HP) (w : World) (vs : Nat → AV) (L : Nat → Prop) (a : Act) : Prop where
  hy : runL cl K (dlOf qx eo kc lv ops b done ds rest) l e d h = .yes
  chk : Chk qx eo ops n b done rest
  lr : ∃ tm, LR lv n ρ ds l e tm
  crd : ∀ t, rd l e (toOf ds t) = aval ops a0 vs (· ∈ done) t
  nth : ∀ k q, done[k]? = some q → LS.nth k l = vs q
  act : AR ops n a0 vs ρ L a.tmps
  post : Post T ρ0 h0 w0 ρ h w
  i1 : ∀ q, L q → q ∈ done ∨ EaR P ops eo ρ h w0 w a rr q
  vun : ∀ q, q ∉ done → vs q = .un
  dis : ∀ q q', L q → q ∉ done → L q' → q' ∉ done → rr q = rr q' → q = q'
  i2 : ∀ q ∈ done, ∀ o, ops[q]? = some o → loudO qx o.op = true → L q
  pi : ∀ q ∈ done, ¬ L q → PI qx lv n cl ops kc b a0 done ρ h vs q
  dfs : a.defers = dl
  dnc : Dn ops (· ∈ done)
  dnl : Dn ops L
  tot : ∀ i < ops.size, i ∈ done ∨ i ∈ rest
variable {done : List Nat} {ds : List (Option Nat)} {rest : List Nat} {l : LS} {e : Tr AV} {ρ σ : Rho} {h h' : HP} {w w' : World} {vs : Nat → AV} {L : Nat → Prop} {a : Act}
def updV (vs : Nat → AV) (i : Nat) (v : AV) : Nat → AV := fun j => if j = i then v else vs j
theorem updV_at (i : Nat) (v : AV) : updV vs i v i = v := if_pos rfl
theorem updV_ne {i j : Nat} (hj : j ≠ i) (v : AV) : updV vs i v j = vs j := if_neg hj
theorem ckC_run {ks : List (Nat × KF)} {r : EL} (hy : runL cl K (ckC ks r) l e d h = .yes) : cks cl l e h ks = true ∧ runL cl K r l e d h = .yes := by
  cases ks with
  | nil => exact ⟨rfl, hy⟩
  | cons k ks =>
    have hy : bf (cks cl l e h (k :: ks)) (runL cl K r l e d h) (R.of false) = .yes := hy
    exact bf_yes' hy
theorem is_yes {r : R} (h : r.is = true) : r = .yes := by cases r <;> first | rfl | cases h
theorem cks_cons {k : Nat} {c : KF} {ks : List (Nat × KF)} (hy : cks cl l e h ((k, c) :: ks) = true) : c cl l e h (fun v _ => R.of (AV.same v (LS.nth k l))) = .yes ∧ cks cl l e h ks = true := by
  have hy : bf (c cl l e h (fun v _ => R.of (AV.same v (LS.nth k l)))).is (cks cl l e h ks) false = true := hy
  obtain ⟨h1, h2⟩ := bft hy
  exact ⟨is_yes h1, h2⟩
theorem ckL_mem {i : Nat} : ∀ (done : List Nat) (k0 : Nat), cks cl l e h (ckL qx kc ops b ds i k0 done) = true → ∀ k q o, done[k]? = some q → ops[q]? = some o → qx o.op = true → bef b q i = false →
    codeOf kc ops ds o cl l e h (fun v _ => R.of (AV.same v (LS.nth (k0 + k) l))) = .yes
  | [], k0, hy, k, q, o, hk, ho, hq, hb => by simp at hk
  | q' :: r, k0, hy, k, q, o, hk, ho, hq, hb => by
    unfold ckL at hy
    cases k with
    | zero =>
      simp only [List.getElem?_cons_zero, Option.some.injEq] at hk
      subst hk
      rw [ho] at hy
      dsimp only at hy
      rw [hq, hb] at hy
      exact (cks_cons hy).1
    | succ k =>
      have hk : r[k]? = some q := by simpa using hk
      have hr : cks cl l e h (ckL qx kc ops b ds i (Nat.add k0 1) r) = true := by
        split at hy
        · rename_i o' ho'
          cases hc : (qx o'.op && !(bef b q' i)) with
          | true => rw [hc] at hy; exact (cks_cons hy).2
          | false => rw [hc] at hy; exact hy
        · exact hy
      have := ckL_mem r (k0 + 1) hr k q o hk ho hq hb
      rwa [show k0 + 1 + k = k0 + (k + 1) from by omega] at this
theorem ocOf_quiet (hqx : QxOk qx) {oo : Operand → EO} {o : Op} (hq : qx o = true) : ocOf false kc oo o = .op (kc oo o) := by
  obtain ⟨h1, h2⟩ := hqx o hq
  cases o with
  | move x => cases h1
  | assign x => cases h1
  | defer c => exact absurd rfl (h2 c)
  | _ => rfl
theorem ocOf_loud {oo : Operand → EO} {o : Op} (hq : loudO qx o = true) : ocOf false kc oo o = .op (kc oo o) ∨ ocOf false kc oo o = .op kBad := by
  cases o <;> first | exact .inl rfl | exact .inr rfl | cases hq
theorem Chk.ahead {i : Nat} {o : Oper} (ho : ops[i]? = some o) (hl : loudO qx o.op = true) : ∀ {done rest : List Nat}, Chk qx eo ops n b done rest → i ∈ done → ∀ j ∈ rest, ∀ oj, ops[j]? = some oj → eo oj.op = true ∨ bef b i j = true := by
  intro done rest hc
  induction hc with
  | nil done => intro _ j hj; cases hj
  | @cons done c oc r hoc ht _ _ ih =>
    intro hi j hj oj hoj
    cases hj with
    | head => rw [hoc] at hoj; cases hoj; exact ht.loud.imp id (fun h => h i hi o ho hl)
    | tail _ hj => exact ih (List.mem_cons_of_mem _ hi) j hj oj hoj
theorem Chk.eov {i : Nat} {o : Oper} (ho : ops[i]? = some o) (he : eo o.op = true) : ∀ {done rest : List Nat}, Chk qx eo ops n b done rest → i ∈ rest → i ∉ done ∧ o.guard = none ∧ ∀ t ∈ o.looksAt ops, ∀ j, wrt ops t = some j → bef b j i = true := by
  intro done rest hc
  induction hc with
  | nil done => intro hj; cases hj
  | @cons done c oc r hoc ht _ _ ih =>
    intro hi
    cases hi with
    | head => rw [ho] at hoc; cases hoc; exact ⟨ht.new, ht.eov he⟩
    | tail _ hi => obtain ⟨h1, h2⟩ := ih hi; exact ⟨fun h => h1 (List.mem_cons_of_mem _ h), h2⟩
theorem Chk.listed {L : Nat → Prop} (hrdy : ∀ i o, ops[i]? = some o → Rdy ops L i → L i) : ∀ {done rest : List Nat}, Chk qx eo ops n b done rest → (∀ q ∈ done, L q) → ∀ q ∈ rest, L q := by
  intro done rest hc
  induction hc with
  | nil done => intro _ j hj; cases hj
  | @cons done c oc r hoc ht _ _ ih =>
    intro hd j hj
    have hL : L c := hrdy c oc hoc (fun o' ho' e' he' hb' => by rw [hoc] at ho'; cases ho'; exact hd _ (ht.after e' he' hb'))
    cases hj with
    | head => exact hL
    | tail _ hj => exact ih (fun q hq => by cases hq with | head => exact hL | tail _ hq => exact hd q hq) j hj
structure KeOk (T : Tb) (P : Program) (cl : Cl) (eo : Op → Bool) (kc : (Operand → EO) → Op → KF) : Prop where
  run : ∀ (ρ : Rho) (h : HP) (l : LS) (e : Tr AV) (ro : Operand → Value) (K : Kv) (oo : Operand → EO) (o : Oper), eo o.op = true → (∀ x, VR ρ (rd l e (oo x)) (ro x)) → kc oo o.op cl l e h K = .yes → EarlyOp T P ρ h K (execOp ro o)
  sel : ∀ (o : Oper), eo o.op = true → ∀ cs bb, o.op ≠ .select cs bb
  dfr : ∀ (o : Oper), eo o.op = true → ∀ c, o.op ≠ .defer c
/-- at its turn in the evaluator's order -/
theorem cons_done (hb : b = Region.before ops) {i : Nat} {o : Oper} (ho : ops[i]? = some o) (dnc : Dn ops (· ∈ done)) (ht : TurnOk qx eo ops n b done i o) : Cons ops b i (· ∈ done) ∧ Cons ops b i (· ∈ i :: done) := by
  have hr : Rdy ops (· ∈ done) i := fun o' ho' e' he' hb' => by rw [ho] at ho'; cases ho'; exact ht.after e' he' hb'
  have h1 : ∀ j, bef b j i = true → j ∈ done := fun j hj => by rw [hb] at hj; exact bef_ok (L := fun x => x ∈ done) dnc hj hr
  have h2 : ∀ j, bef b i j = true → j ∉ done := fun j hj hjd => by rw [hb] at hj; exact ht.new (bef_ok' (L := fun x => x ∈ done) dnc hj hjd)
  refine ⟨fun o' t j _ _ _ => ⟨h1 j, h2 j⟩, fun o' t j _ _ _ => ⟨fun hj => List.mem_cons_of_mem _ (h1 j hj), fun hj hm => ?_⟩⟩
  cases hm with
  | head => exact ht.new (h1 i hj)
  | tail _ hm => exact h2 j hj hm
theorem cons_list (hb : b = Region.before ops) {i : Nat} (dnl : Dn ops L) (hr : Rdy ops L i) (hn : ¬ L i) : Cons ops b i L := by
  subst hb
  exact fun o' t j _ _ _ => ⟨fun hj => bef_ok dnl hj hr, fun hj hjd => hn (bef_ok' dnl hj hjd)⟩
theorem dn_cons {i : Nat} {o : Oper} (ho : ops[i]? = some o) (dnc : Dn ops (· ∈ done)) (ht : TurnOk qx eo ops n b done i o) : Dn ops (· ∈ i :: done) := by
  intro j o' ho' hj e' he' hb'
  cases hj with
  | head => rw [ho] at ho'; cases ho'; exact List.mem_cons_of_mem _ (ht.after e' he' hb')
  | tail _ hj => exact List.mem_cons_of_mem _ (dnc j o' ho' hj e' he' hb')
/-- the evaluator's places behind an operation -/
theorem crd_push (hu : Uniq ops) {i : Nat} {o : Oper} (ho : ops[i]? = some o) (hd : dOk n o.dst = true) (hcrd : ∀ t, rd l e (toOf ds t) = aval ops a0 vs (· ∈ done) t) (v : AV) (t : Nat) :
    rd (.c v l) (upE (lvD lv o.dst) v e) (toOf (o.dst :: ds) t) = aval ops a0 (updV vs i v) (· ∈ i :: done) t := by
  rw [push_rd hd]
  have := aval_put (a0 := a0) (vs := vs) (S := (· ∈ done)) hu ho (vs' := updV vs i v) (fun j hj => updV_ne hj v) (S' := (· ∈ i :: done)) (fun j => by rw [List.mem_cons]; exact ⟨fun h => h.symm, fun h => h.symm⟩) t
  split
  · rename_i hdt; rw [this.1 hdt, updV_at]
  · rename_i hdt; rw [this.2 hdt, hcrd]
theorem nth_push {i : Nat} (hi : i ∉ done) (hn : ∀ k q, done[k]? = some q → LS.nth k l = vs q) (v : AV) : ∀ k q, (i :: done)[k]? = some q → LS.nth k (.c v l) = updV vs i v q := by
  intro k q hk
  cases k with
  | zero => simp only [List.getElem?_cons_zero, Option.some.injEq] at hk; subst hk; rw [updV_at]; rfl
  | succ k =>
    have hk : done[k]? = some q := by simpa using hk
    have hq : q ≠ i := fun h => hi (h ▸ List.mem_of_getElem? hk)
    rw [updV_ne hq]
    exact hn k q hk
/-- the evaluator goes ahead alone -/
theorem St.adv (heo : ∀ o, eo o = true → loudO qx o = true) (hqx : QxOk qx) (hF : ∀ f, F.fn f) (hkq : KqOk T P F m cl qx kc) {i : Nat} {r ord : List Nat} (hR : RegOk qx eo ops n b ord) {o : Oper} (ho : ops[i]? = some o) (hl : loudO qx o.op = false) (s : St T P qx eo rr lv n cl ops kc b a0 K d dl ρ0 h0 w0 done ds (i :: r) l e ρ h w vs L a) :
    ∃ ds' l' e' vs', St T P qx eo rr lv n cl ops kc b a0 K d dl ρ0 h0 w0 (i :: done) ds' r l' e' ρ h w vs' L a := by
  obtain ⟨hy, chk, ⟨tm, lr⟩, crd, nth, act, post, i1, vun, dis, i2, pi, dfs, dnc, dnl, tot⟩ := s
  cases chk with
  | @cons _ _ o' _ ho' ht _ ck =>
  rw [ho] at ho'; cases ho'
  have hdok := hR.dok i o ho
  have g := post.good
  have hne : ∀ j, j ∈ done → j ≠ i := fun j hj h => ht.new (by rw [← h]; exact hj)
  have hneL : ∀ j, L j → j ≠ i := fun j hj h => by
    rcases i1 j hj with h1 | ⟨oj, _, _, _, h1, h2, _⟩
    · exact hne j h1 h
    · rw [h, ho] at h1; cases h1; rw [heo o.op h2] at hl; cases hl
  obtain ⟨c1, c2⟩ := cons_done hR.bq ho dnc ht
  unfold dlOf at hy
  rw [ho] at hy
  dsimp only at hy
  rw [hl] at hy
  have hy : runL cl K (elC (gdOf ops ds o.guard) (lvD lv o.dst) (ocOf false kc (ooOf ds) o.op) (ckC (bif isMv o.op then [] else bif qx o.op then [(0, codeOf kc ops (o.dst :: ds) o)] else ckL qx kc ops b (o.dst :: ds) i 1 done) (dlOf qx eo kc lv ops b (i :: done) (o.dst :: ds) r))) l e d h = .yes := hy
  have fin : ∀ (v : AV) (x : Value), VR ρ v x → runL cl K (dlOf qx eo kc lv ops b (i :: done) (o.dst :: ds) r) (.c v l) (upE (lvD lv o.dst) v e) d h = .yes →
      (PMv kc ops ds l e o v ∨ (qx o.op = true ∧ codeOf kc ops (o.dst :: ds) o cl (.c v l) (upE (lvD lv o.dst) v e) h (fun v' _ => R.of (AV.same v' v)) = .yes)) →
      ∃ ds' l' e' vs', St T P qx eo rr lv n cl ops kc b a0 K d dl ρ0 h0 w0 (i :: done) ds' r l' e' ρ h w vs' L a := by
    intro v x hv hy' hp
    have lr' := LR.dst (a := { tmps := tm, defers := [] }) lr hdok hv
    refine ⟨_, _, _, updV vs i v, hy', ck, ⟨_, lr'⟩, crd_push hR.uniq ho hdok crd v, nth_push ht.new nth v, act.chg (fun j hj => updV_ne (hneL j hj) v), post, fun q hq => (i1 q hq).imp (List.mem_cons_of_mem _) id, fun q hq => ?_, fun q q' h1 h2 h3 h4 => dis q q' h1 (fun h => h2 (List.mem_cons_of_mem _ h)) h3 (fun h => h4 (List.mem_cons_of_mem _ h)), ?_, ?_, dfs, dn_cons ho dnc ht, dnl, ?_⟩
    · rw [updV_ne (fun h => hq (by rw [h]; exact List.mem_cons_self ..))]; exact vun q (fun h => hq (List.mem_cons_of_mem _ h))
    · intro q hq o' ho' hl'
      cases hq with
      | head => rw [ho] at ho'; cases ho'; rw [hl] at hl'; cases hl'
      | tail _ hq => exact i2 q hq o' ho' hl'
    · intro q hq hnl
      by_cases hqi : q = i
      · subst hqi
        rcases hp with hp | ⟨hp1, hp2⟩
        · refine ⟨o, ds, l, e, tm, (· ∈ done), ho, lr, fun j hj => List.mem_cons_of_mem _ hj, fun t _ => ?_, c1, .inl (by rw [updV_at]; exact hp)⟩
          rw [crd t, aval_chg fun j hj => updV_ne (hne j hj) v]
        · exact ⟨o, _, _, _, _, (· ∈ q :: done), ho, lr', fun j hj => hj, fun t _ => crd_push hR.uniq ho hdok crd v t, c2, .inr ⟨hp1, by rw [updV_at]; exact hp2⟩⟩
      · cases hq with
        | head => exact absurd rfl hqi
        | tail _ hq => exact (pi q hq hnl).more (updV_ne hqi v) (fun j hj => ⟨List.mem_cons_of_mem _ hj, updV_ne (hne j hj) v⟩)
    · intro j hj
      rcases tot j hj with h' | h'
      · exact .inl (List.mem_cons_of_mem _ h')
      · cases h' with
        | head => exact .inl (List.mem_cons_self ..)
        | tail _ h' => exact .inr h'
  cases hmv : isMv o.op with
  | true =>
    rw [hmv] at hy
    have hmove : ∃ x, (o.op = .move x ∨ o.op = .assign x) ∧ ocOf false kc (ooOf ds) o.op = .mv (ooOf ds x) := by
      cases hop : o.op with
      | move x => exact ⟨x, .inl rfl, rfl⟩
      | assign x => exact ⟨x, .inr rfl, rfl⟩
      | _ => rw [hop] at hmv; cases hmv
    obtain ⟨x, hx, hoc⟩ := hmove
    rw [hoc] at hy
    rcases elC_run hy with ⟨hg, hs⟩ | ⟨g', bb, hg, h2, hs⟩
    · exact fin _ _ (lr.oo (a := { tmps := tm, defers := [] }) rfl x) hs (.inl ⟨x, hx, .inl ⟨hg, rfl⟩⟩)
    · exact fin .ud undef .ud hs (.inl ⟨x, hx, .inr ⟨g', bb, hg, h2, rfl⟩⟩)
  | false =>
    have hq : qx o.op = true := by
      unfold loudO at hl
      rw [hmv] at hl
      simpa using hl
    rw [hmv, hq, ocOf_quiet hqx hq] at hy
    rcases elC_run hy with ⟨hg, hs⟩ | ⟨g', bb, hg, h2, hs⟩
    · have hs : kc (ooOf ds) o.op cl l e h (fun v h' => runL cl K (ckC [(0, codeOf kc ops (o.dst :: ds) o)] (dlOf qx eo kc lv ops b (i :: done) (o.dst :: ds) r)) (.c v l) (upE (lvD lv o.dst) v e) d h') = .yes := hs
      obtain ⟨v, x, hv, hvx, _⟩ := hkq ρ h w l e _ _ (ooOf ds) o g (lr.oo (a := { tmps := tm, defers := [] }) rfl) hq hs
      obtain ⟨k1, k2⟩ := ckC_run hv
      have k1 := (cks_cons k1).1
      exact fin v x hvx k2 (.inr ⟨hq, k1⟩)
    · obtain ⟨k1, k2⟩ := ckC_run hs
      have k1 := (cks_cons k1).1
      exact fin .ud undef .ud k2 (.inr ⟨hq, k1⟩)
end
end
end Ev
namespace Ev
noncomputable section
open Go
section
variable {T : Tb} {P : Program} {qx eo : Op → Bool} {rr : Nat → Nat} {lv : Nat → Bool} {n m N : Nat} {F : Fence} {cl : Cl} {ops : Array Oper} {kc : (Operand → EO) → Op → KF} {b : Array Nat} {a0 : Nat → AV}
variable {K : Ct} {d : Df} {dl : List Deferred} {ρ0 : Rho} {h0 : HP} {w0 : World}
variable {done : List Nat} {ds : List (Option Nat)} {rest : List Nat} {l : LS} {e : Tr AV} {ρ σ : Rho} {h h' : HP} {w w' : World} {vs : Nat → AV} {L : Nat → Prop} {a : Act} {ord : List Nat}

theorem pkC_run {ks : List KF} {r : EL} (hy : runL cl K (pkC ks r) l e d h = .yes) : pks cl l e h ks = true ∧ runL cl K r l e d h = .yes := by
  cases ks with
  | nil => exact ⟨rfl, hy⟩
  | cons k ks =>
    have hy : bf (pks cl l e h (k :: ks)) (runL cl K r l e d h) (R.of false) = .yes := hy
    exact bf_yes' hy
theorem pkL_mem {i : Nat} {o : Oper} (ho : ops[i]? = some o) (he : eo o.op = true) (ha : aftIn done o.after.toList = true) : ∀ {r : List Nat}, pks cl l e h (pkL eo kc ops ds done r) = true → i ∈ r → kc (ooOf ds) o.op cl l e h (fun _ _ => .yes) = .yes
  | [], _, hi => by cases hi
  | a :: r, hy, hi => by
    unfold pkL at hy
    by_cases hia : i = a
    · subst hia
      rw [ho] at hy
      dsimp only at hy
      rw [he, ha] at hy
      have hy : bf (kc (ooOf ds) o.op cl l e h (fun _ _ => .yes)).is (pks cl l e h (pkL eo kc ops ds done r)) false = true := hy
      exact is_yes (bft hy).1
    · have hir : i ∈ r := by cases hi with | head => exact absurd rfl hia | tail _ h => exact h
      have hr : pks cl l e h (pkL eo kc ops ds done r) = true := by
        split at hy
        · rename_i oa _
          cases hc : (eo oa.op && aftIn done oa.after.toList) with
          | false => rw [hc] at hy; exact hy
          | true => rw [hc] at hy; exact (bft (a := (kc (ooOf ds) oa.op cl l e h (fun _ _ => .yes)).is) hy).2
        · exact hy
      exact pkL_mem ho he ha hr hir
theorem aftIn_ok : ∀ {l : List Edge}, aftIn done l = true → ∀ e ∈ l, Region.binds .any e = true → e.on ∈ done
  | [], _, e, he, _ => by cases he
  | e' :: r, h, e, he, hb => by
    simp only [aftIn, Bool.and_eq_true] at h
    rcases List.mem_cons.1 he with rfl | he
    · have h1 := h.1
      rw [hb] at h1
      have h1 : done.any (Nat.beq e.on) = true := h1
      obtain ⟨x, hx, hxe⟩ := List.any_eq_true.1 h1
      rw [Nat.eq_of_beq_eq_true hxe]; exact hx
    · exact aftIn_ok h.2 e he hb
/-- a world in which more lies -/
theorem Post.grow (g : Good T ρ h w) (obj : Obj) : Post T ρ h w ρ h (w.alloc obj) := by
  have hh : (w.alloc obj).heap = w.heap.push obj := rfl
  have hlt : ∀ i, i < w.heap.size → (w.heap.push obj)[i]? = w.heap[i]? := fun i hi => by simp [Array.getElem?_push, Nat.ne_of_lt hi]
  refine ⟨Rho.le_refl _, ⟨fun i hi => ?_, g.inj, g.dom⟩, Nat.le_refl _, fun _ _ e _ => e, by rw [hh]; simp, fun r hr _ => by rw [hh]; exact hlt r hr, fun i l hl e => .inl ⟨i, l, hl, e, rfl⟩, rfl, rfl, rfl⟩
  obtain ⟨l, o, h1, h2, h3⟩ := g.blk i hi
  exact ⟨l, o, h1, by rw [hh, hlt _ (Array.getElem?_eq_some_iff.1 h2).1]; exact h2, h3⟩
/-- what lies already becomes the evaluator's -/
theorem Post.adopt {ab : AB} {obj : Obj} {r sz : Nat} (P0 : Post T ρ0 h0 w0 ρ h w) (hr : w.heap[r]? = some obj) (h0r : w0.heap.size ≤ r) (hfree : ∀ i l, h.live i → ρ i = some l → l.blk ≠ r)
    (hb : BR T (fun i => if i = h.nx then some ⟨r, 0, sz⟩ else ρ i) ⟨r, 0, sz⟩ ab obj) : Post T ρ0 h0 w0 (fun i => if i = h.nx then some ⟨r, 0, sz⟩ else ρ i) (h.new ab) w ∧ ρ.le (fun i => if i = h.nx then some ⟨r, 0, sz⟩ else ρ i) := by
  have g := P0.good
  have hn : ∀ i l, ρ i = some l → i ≠ h.nx := fun i l e hi => by have := g.dom i l e; rw [hi] at this; omega
  have hle : ρ.le (fun i => if i = h.nx then some ⟨r, 0, sz⟩ else ρ i) := fun i l e => by simp [hn i l e, e]
  have hold : ∀ i, i ≠ h.nx → (h.new ab).live i → h.live i := fun i hi hl => by unfold HP.live at *; rwa [get_new, if_neg hi] at hl
  refine ⟨⟨Rho.le_trans P0.le hle, ⟨fun i hi => ?_, fun i j l k hi hj e1 e2 e3 => ?_, fun i l e => ?_⟩, ?_, fun i l e hlt => ?_, P0.size, P0.far, fun i l hl e => ?_, P0.os, P0.tape, P0.out⟩, hle⟩
  · by_cases hin : i = h.nx
    · subst hin
      exact ⟨⟨r, 0, sz⟩, obj, if_pos rfl, hr, by rw [get_new, if_pos rfl]; exact hb⟩
    · obtain ⟨l, o, h1, h2, h3⟩ := g.blk i (hold i hin hi)
      exact ⟨l, o, hle _ _ h1, h2, by rw [get_new, if_neg hin]; exact h3.mono hle⟩
  · by_cases hin : i = h.nx
    · by_cases hjn : j = h.nx
      · rw [hin, hjn]
      · simp only [hin, if_true, Option.some.injEq] at e1
        simp only [hjn, if_false] at e2
        subst e1
        exact absurd e3.symm (hfree j k (hold j hjn hj) e2)
    · by_cases hjn : j = h.nx
      · simp only [hin, if_false] at e1
        simp only [hjn, if_true, Option.some.injEq] at e2
        subst e2
        exact absurd e3 (hfree i l (hold i hin hi) e1)
      · simp only [hin, if_false] at e1
        simp only [hjn, if_false] at e2
        exact g.inj i j l k (hold i hin hi) (hold j hjn hj) e1 e2 e3
  · show i.num < h.nx.succ.num
    rw [Ps.num_succ]
    by_cases hin : i = h.nx
    · rw [hin]; omega
    · simp only [hin, if_false] at e
      have := g.dom i l e; omega
  · show h0.nx.num ≤ h.nx.succ.num
    rw [Ps.num_succ]; have := P0.nx; omega
  · by_cases hin : i = h.nx
    · rw [hin] at hlt; have := P0.nx; omega
    · simp only [hin, if_false] at e
      exact P0.old i l e hlt
  · by_cases hin : i = h.nx
    · simp only [hin, if_true, Option.some.injEq] at e
      subst e; exact .inr h0r
    · simp only [hin, if_false] at e
      exact P0.come i l (hold i hin hl) e
theorem EaR.post {q : Nat} (hp : Post T ρ h w σ h' w') (r : EaR P ops eo ρ h w0 w a rr q) : EaR P ops eo σ h' w0 w' a rr q := by
  obtain ⟨o, xf, obj, a1, h1, h2, h3, h4, h5, h6, h7, h8, h9⟩ := r
  refine ⟨o, xf, obj, a1, h1, h2, h3, h4, h5, h6, Nat.lt_of_lt_of_le h7 hp.size, by rw [hp.far _ h7 h9]; exact h8, fun i l hl e hb => ?_⟩
  rcases hp.come i l hl e with ⟨j, m, hj, ej, hbb⟩ | hge
  · exact h9 j m hj ej (hbb.trans hb)
  · omega
theorem EaR.put (hu : Uniq ops) {q i : Nat} {o' : Oper} (ho' : ops[i]? = some o') (hqi : q ≠ i) (hrd : ∀ o, ops[q]? = some o → eo o.op = true → ∀ t ∈ o.looksAt ops, ∀ j, wrt ops t = some j → j ≠ i) (x : Value) (r : EaR P ops eo ρ h w0 w a rr q) : EaR P ops eo ρ h w0 w (a.put o'.dst x) rr q := by
  obtain ⟨o, xf, obj, a1, h1, h2, h3, h4, h5, h6, h7, h8, h9⟩ := r
  have hput : ∀ t, o'.dst ≠ some t → (a.put o'.dst x).tmps.getD t undef = a.tmps.getD t undef := fun t ht => by
    cases hd : o'.dst with
    | none => rfl
    | some d =>
      rw [hd] at ht
      have hne : d ≠ t := fun e => ht (by rw [e])
      show (a.tmps.setIfInBounds d x).getD t undef = _
      simp [Array.getD_eq_getD_getElem?, Array.getElem?_setIfInBounds_ne hne]
  refine ⟨o, xf, obj, a1, h1, h2, h3, fun t ht => ?_, fun d hd => ?_, h6, h7, h8, h9⟩
  · rw [hput t (fun e => hrd o h1 h2 t ht i (wrt_of hu ho' e) rfl)]; exact h4 t ht
  · rw [hput d (fun e => hqi (hu q i o o' d h1 ho' hd e))]; exact h5 d hd
theorem Chk.eovAll (hR : RegOk qx eo ops n b ord) {q : Nat} {o : Oper} (ho : ops[q]? = some o) (he : eo o.op = true) : o.guard = none ∧ ∀ t ∈ o.looksAt ops, ∀ j, wrt ops t = some j → bef b j q = true :=
  (hR.chk.eov ho he (hR.cover q (Array.getElem?_eq_some_iff.1 ho).1)).2
theorem St.rdE (hR : RegOk qx eo ops n b ord) {q : Nat} (hnl : ¬ L q) (s : St T P qx eo rr lv n cl ops kc b a0 K d dl ρ0 h0 w0 done ds rest l e ρ h w vs L a) : ∀ j, L j → j ∉ done → ∀ o, ops[j]? = some o → eo o.op = true → ∀ t ∈ o.looksAt ops, ∀ k, wrt ops t = some k → k ≠ q := by
  intro j hj _ o ho he t ht k hk hkq
  have hb := (Chk.eovAll hR ho he).2 t ht k hk
  rw [hR.bq] at hb
  have := bef_ok' s.dnl hb hj
  rw [hkq] at this; exact hnl this
/-- the machine does what the evaluator did long ago -/
theorem St.old (hF : ∀ f, F.fn f) (hkq : KqOk T P F m cl qx kc) (hR : RegOk qx eo ops n b ord) (s : St T P qx eo rr lv n cl ops kc b a0 K d dl ρ0 h0 w0 done ds rest l e ρ h w vs L a) {q : Nat} (hq : q ∈ done) (hnl : ¬ L q) (hr : Rdy ops L q) {Kn : Act → World → Prop}
    (hK : ∀ w' a', St T P qx eo rr lv n cl ops kc b a0 K d dl ρ0 h0 w0 done ds rest l e ρ h w' vs (fun j => L j ∨ j = q) a' → Kn a' w') : wpOpJ F m P ops q Kn a w := by
  refine (s.pi q hq hnl).go hF hkq hR.rd s.post.good s.act (cons_list hR.bq s.dnl hr hnl) (fun o x w' ho hv hb => hK w' _ ?_)
  have hpb := Post.below s.post.good hb
  have hrdE := s.rdE hR (q := q) hnl
  obtain ⟨hy, chk, lr, crd, nth, act, post, i1, vun, dis, i2, pi, dfs, dnc, dnl, tot⟩ := s
  refine ⟨hy, chk, lr, crd, nth, act.put hR.uniq ho (hR.dok q o ho) (fun _ _ => rfl) (fun j => Iff.rfl) hv, post.trans hpb, ?_, vun, fun q1 q2 h1 h2 h3 h4 => dis q1 q2 (h1.resolve_right (fun h => h2 (by rw [h]; exact hq))) h2 (h3.resolve_right (fun h => h4 (by rw [h]; exact hq))) h4, fun q' h1 o' h2 h3 => .inl (i2 q' h1 o' h2 h3), fun q' h1 h2 => pi q' h1 (fun h => h2 (.inl h)), ?_, dnc, ?_, tot⟩
  · rintro j (hj | rfl)
    · by_cases hjd : j ∈ done
      · exact .inl hjd
      · exact .inr ((((i1 j hj).resolve_left hjd).post hpb).put hR.uniq ho (fun h => hnl (by rw [← h]; exact hj)) (hrdE j hj hjd) x)
    · exact .inl hq
  · rw [put_defers]; exact dfs
  · rintro j o' ho' (hj | rfl) e' he' hb'
    · exact .inl (dnl j o' ho' hj e' he' hb')
    · exact .inl (hr o' ho' e' he' hb')
/-- both together -/
theorem St.loud (hF : ∀ f, F.fn f) (hkc : KmOk T P F m cl kc) (hR : RegOk qx eo ops n b ord) {i : Nat} {r : List Nat} {o : Oper} (ho : ops[i]? = some o) (hl : loudO qx o.op = true) (s : St T P qx eo rr lv n cl ops kc b a0 K d dl ρ0 h0 w0 done ds (i :: r) l e ρ h w vs L a) (hnl : ¬ L i) (hrd : Rdy ops L i) {Kn : Act → World → Prop}
    (hK : ∀ ds' l' e' σ h' w' vs' a', St T P qx eo rr lv n cl ops kc b a0 K d dl ρ0 h0 w0 (i :: done) ds' r l' e' σ h' w' vs' (fun j => L j ∨ j = i) a' → Kn a' w') : wpOpJ F m P ops i Kn a w := by
  have hrdE := s.rdE hR (q := i) hnl
  obtain ⟨hy, chk, ⟨tm, lr⟩, crd, nth, act, post, i1, vun, dis, i2, pi, dfs, dnc, dnl, tot⟩ := s
  cases chk with
  | @cons _ _ o' _ ho' ht _ ck =>
  rw [ho] at ho'; cases ho'
  have hdok := hR.dok i o ho
  have g := post.good
  have hne : ∀ j, j ∈ done → j ≠ i := fun j hj h => ht.new (by rw [← h]; exact hj)
  obtain ⟨c1, c2⟩ := cons_done hR.bq ho dnc ht
  have c3 := cons_list hR.bq dnl hrd hnl
  obtain ⟨a', hr', hsame⟩ := lr.mix act.size (o.looksAt ops) (fun t ht => by rw [crd t, reads_eq hR.rd ho c1 c3 t ht]; exact act.rel t)
  have hwant := wanted_same (o := o) hsame
  have heval := eval_same (o := o) hsame
  have hnmv : isMv o.op = false := by unfold loudO at hl; cases hm : isMv o.op with | false => rfl | true => rw [hm] at hl; cases hl
  have hnq : qx o.op = false := by unfold loudO at hl; rw [hnmv] at hl; simpa using hl
  have fin : ∀ (v : AV) (x : Value) (σ : Rho) (h' : HP) (w' : World), Post T ρ h w σ h' w' → VR σ v x →
      runL cl K (ckC (ckL qx kc ops b (o.dst :: ds) i 1 done) (dlOf qx eo kc lv ops b (i :: done) (o.dst :: ds) r)) (.c v l) (upE (lvD lv o.dst) v e) d h' = .yes → Kn (a.put o.dst x) w' := by
    intro v x σ h' w' hp hv hk
    obtain ⟨k1, k2⟩ := ckC_run hk
    have lr' := LR.dst (a := { tmps := tm, defers := [] }) (lr.mono hp.le) hdok hv
    have crd' := crd_push (lv := lv) hR.uniq ho hdok crd v
    have nth' := nth_push ht.new nth v
    refine hK _ _ _ σ h' w' (updV vs i v) _ ⟨k2, ck, ⟨_, lr'⟩, crd', nth', ?_, post.trans hp, ?_, ?_, ?_, ?_, ?_, ?_, dn_cons ho dnc ht, ?_, ?_⟩
    · exact (act.mono hp.le).put hR.uniq ho hdok (fun j hj => updV_ne hj v) (fun j => Iff.rfl) (by rw [updV_at]; exact hv)
    · rintro j (hj | rfl)
      · by_cases hjd : j ∈ done
        · exact .inl (List.mem_cons_of_mem _ hjd)
        · exact .inr ((((i1 j hj).resolve_left hjd).post hp).put hR.uniq ho (fun h => hnl (by rw [← h]; exact hj)) (hrdE j hj hjd) x)
      · exact .inl (List.mem_cons_self ..)
    · intro q hq
      rw [updV_ne (fun h => hq (by rw [h]; exact List.mem_cons_self ..))]; exact vun q (fun h => hq (List.mem_cons_of_mem _ h))
    · intro q1 q2 h1 h2 h3 h4
      exact dis q1 q2 (h1.resolve_right (fun h => h2 (by rw [h]; exact List.mem_cons_self ..))) (fun h => h2 (List.mem_cons_of_mem _ h)) (h3.resolve_right (fun h => h4 (by rw [h]; exact List.mem_cons_self ..))) (fun h => h4 (List.mem_cons_of_mem _ h))
    · intro q hq o' ho' hl'
      cases hq with
      | head => exact .inr rfl
      | tail _ hq => exact .inl (i2 q hq o' ho' hl')
    · intro q hq hnl'
      have hqi : q ≠ i := fun h => hnl' (.inr h)
      have hqL : ¬ L q := fun h => hnl' (.inl h)
      have hqd : q ∈ done := by cases hq with | head => exact absurd rfl hqi | tail _ hq => exact hq
      obtain ⟨oq, dsq, lq, eq, tmq, S, g1, g2, g3, g4, g5, g6⟩ := pi q hqd hqL
      rcases g6 with g6 | ⟨g6, _⟩
      · refine ⟨oq, dsq, lq, eq, tmq, S, g1, g2.mono hp.le, fun j hj => List.mem_cons_of_mem _ (g3 j hj), fun t ht' => ?_, g5, .inl (by rw [updV_ne hqi]; exact g6)⟩
        rw [g4 t ht', aval_chg fun j hj => updV_ne (hne j (g3 j hj)) v]
      · have hb : bef b q i = false := by
          cases hb : bef b q i with
          | false => rfl
          | true => exact absurd (by rw [hR.bq] at hb; exact bef_ok dnl hb hrd) hqL
        obtain ⟨k, hk⟩ := List.getElem?_of_mem hqd
        have hcode := ckL_mem done 1 k1 k q oq hk g1 g6 hb
        rw [show 1 + k = k + 1 from by omega, nth' (k + 1) q (by simpa using hk)] at hcode
        refine ⟨oq, _, _, _, _, (· ∈ i :: done), g1, lr', fun j hj => hj, fun t _ => crd' t, ?_, .inr ⟨g6, hcode⟩⟩
        intro o' t j ho' ht' hw
        rw [g1] at ho'; cases ho'
        refine ⟨fun hj => List.mem_cons_of_mem _ (by rw [hR.bq] at hj; exact bef_ok' (L := fun x => x ∈ done) dnc hj hqd), fun hj => ht.again hl q hqd oq g1 g6 hb t ht' j hw hj⟩
    · rw [put_defers]; exact dfs
    · rintro j o' ho' (hj | rfl) e' he' hb'
      · exact .inl (dnl j o' ho' hj e' he' hb')
      · exact .inl (hrd o' ho' e' he' hb')
    · intro j hj
      rcases tot j hj with h' | h'
      · exact .inl (List.mem_cons_of_mem _ h')
      · cases h' with
        | head => exact .inl (List.mem_cons_self ..)
        | tail _ h' => exact .inr h'
  unfold wpOpJ
  rw [ho]
  dsimp only
  unfold dlOf at hy
  rw [ho] at hy
  dsimp only at hy
  rw [hnmv, hnq, hl] at hy
  have hy : runL cl K (pkC (pkL eo kc ops ds done r) (elC (gdOf ops ds o.guard) (lvD lv o.dst) (ocOf false kc (ooOf ds) o.op) (ckC (ckL qx kc ops b (o.dst :: ds) i 1 done) (dlOf qx eo kc lv ops b (i :: done) (o.dst :: ds) r)))) l e d h = .yes := hy
  have hy := (pkC_run hy).2
  have hy : runL cl K (elC (gdOf ops ds o.guard) (lvD lv o.dst) (ocOf false kc (ooOf ds) o.op) (ckC (ckL qx kc ops b (o.dst :: ds) i 1 done) (dlOf qx eo kc lv ops b (i :: done) (o.dst :: ds) r))) l e d h = .yes := hy
  rcases elC_run hy with ⟨hg, hs⟩ | ⟨g', bb, hg, h2, hs⟩
  · rw [hwant, if_pos ((gd_ok hr').1 hg)]
    rcases ocOf_loud (kc := kc) (oo := ooOf ds) hl with hoc | hoc
    · rw [hoc] at hs
      exact hkc ρ h w l e a a' _ (ooOf ds) o Kn g (hr'.oo rfl) heval hs (fun v σ h' w' x hk hp hv => fin v x σ h' w' hp hv hk)
    · rw [hoc] at hs; exact no_yes hs
  · rw [hwant, if_neg (by rw [(gd_ok hr').2 g' bb hg h2]; simp)]
    exact ⟨about_ok hF o a w, fin .ud undef ρ h w (.refl g) .ud hs⟩
/-- what came early: its turn has come -/
theorem St.adopt (hke : KeOk T P cl eo kc) (hR : RegOk qx eo ops n b ord) {i : Nat} {r : List Nat} {o : Oper} (ho : ops[i]? = some o) (hl : loudO qx o.op = true) (s : St T P qx eo rr lv n cl ops kc b a0 K d dl ρ0 h0 w0 done ds (i :: r) l e ρ h w vs L a) (hL : L i) :
    ∃ ds' l' e' σ h' vs', St T P qx eo rr lv n cl ops kc b a0 K d dl ρ0 h0 w0 (i :: done) ds' r l' e' σ h' w vs' L a := by
  obtain ⟨hy, chk, ⟨tm, lr⟩, crd, nth, act, post, i1, vun, dis, i2, pi, dfs, dnc, dnl, tot⟩ := s
  cases chk with
  | @cons _ _ o' _ ho' ht _ ck =>
  rw [ho] at ho'; cases ho'
  have hdok := hR.dok i o ho
  have g := post.good
  have hne : ∀ j, j ∈ done → j ≠ i := fun j hj h => ht.new (by rw [← h]; exact hj)
  obtain ⟨c1, c2⟩ := cons_done hR.bq ho dnc ht
  obtain ⟨o2, xf, obj, a1, e1, e2, e3, e4, e5, e6, e7, e8, e9⟩ := (i1 i hL).resolve_left ht.new
  rw [ho] at e1; cases e1
  obtain ⟨hgd, hrds⟩ := ht.eov e2
  have hlw : ∀ t ∈ o.looksAt ops, aval ops a0 vs (· ∈ done) t = aval ops a0 vs L t := by
    intro t ht'
    unfold aval
    cases hw : wrt ops t with
    | none => rfl
    | some j =>
      dsimp only
      have hb := hrds t ht' j hw
      have h1 : j ∈ done := (c1 o t j ho ht' hw).1 hb
      have h2 : L j := by rw [hR.bq] at hb; exact bef_ok' dnl hb hL
      rw [if_pos h1, if_pos h2]
  obtain ⟨a', hr', hsame⟩ := lr.mix act.size (o.looksAt ops) (fun t ht => by rw [crd t, hlw t ht]; exact act.rel t)
  have heval : ∀ x ∈ o.op.operands, a1.eval x = a'.eval x := eval_same (fun t ht => (e4 t ht).trans (hsame t ht))
  have hnmv : isMv o.op = false := by unfold loudO at hl; cases hm : isMv o.op with | false => rfl | true => rw [hm] at hl; cases hl
  have hnq : qx o.op = false := by unfold loudO at hl; rw [hnmv] at hl; simpa using hl
  unfold dlOf at hy
  rw [ho] at hy
  dsimp only at hy
  rw [hnmv, hnq, hl, hgd] at hy
  have hy : runL cl K (pkC (pkL eo kc ops ds done r) (elC none (lvD lv o.dst) (ocOf false kc (ooOf ds) o.op) (ckC (ckL qx kc ops b (o.dst :: ds) i 1 done) (dlOf qx eo kc lv ops b (i :: done) (o.dst :: ds) r)))) l e d h = .yes := hy
  have hy := (pkC_run hy).2
  rcases elC_run hy with ⟨_, hs⟩ | ⟨_, _, hg, _⟩
  rotate_left
  · cases hg
  rcases ocOf_loud (kc := kc) (oo := ooOf ds) hl with hoc | hoc
  rotate_left
  · rw [hoc] at hs; exact no_yes hs
  rw [hoc] at hs
  have hs : kc (ooOf ds) o.op cl l e h (fun v h' => runL cl K (ckC (ckL qx kc ops b (o.dst :: ds) i 1 done) (dlOf qx eo kc lv ops b (i :: done) (o.dst :: ds) r)) (.c v l) (upE (lvD lv o.dst) v e) d h') = .yes := hs
  obtain ⟨xf', obj', ab, v, sz, f1, f2, f3⟩ := hke.run ρ h l e a'.eval _ (ooOf ds) o e2 (hr'.oo rfl) hs
  have hsel : ∀ cs bb, o.op ≠ .select cs bb := fun cs bb hc => by have := (hke.sel o e2) cs bb; exact this hc
  have hrun := e3 { w with heap := w.heap.extract 0 (rr i) }
  rw [execOp_congr o hsel heval, f1] at hrun
  have hsz : ({ w with heap := w.heap.extract 0 (rr i) } : World).heap.size = rr i := by
    show (w.heap.extract 0 (rr i)).size = rr i
    simp; omega
  rw [hsz] at hrun
  injection hrun with hr1 hr2
  injection hr1 with hr1
  have hobj : obj' = obj := by
    have := congrArg (fun w : World => w.heap.back?) hr2
    simpa [World.alloc] using this
  subst hobj
  have hle0 : ρ.le (fun j => if j = h.nx then some ⟨rr i, 0, sz⟩ else ρ j) := fun j l' e' => by
    have hjn : j ≠ h.nx := fun hh => by have := g.dom j l' e'; rw [hh] at this; omega
    simp [hjn, e']
  obtain ⟨hbr, hvr⟩ := f3 (rr i) (fun j => if j = h.nx then some ⟨rr i, 0, sz⟩ else ρ j) hle0 (if_pos rfl)
  obtain ⟨hP, hle⟩ := Post.adopt post e8 e6 e9 hbr
  generalize hσ : (fun j => if j = h.nx then some (⟨rr i, 0, sz⟩ : Loc) else ρ j) = σ at hbr hvr hP hle
  obtain ⟨k1, k2⟩ := ckC_run f2
  have lr' := LR.dst (a := { tmps := tm, defers := [] }) (lr.mono hle) hdok hvr
  have crd' := crd_push (lv := lv) hR.uniq ho hdok crd v
  have nth' := nth_push ht.new nth v
  refine ⟨_, _, _, σ, h.new ab, updV vs i v, k2, ck, ⟨_, lr'⟩, crd', nth', ⟨act.size, fun t => ?_⟩, hP, ?_, ?_, ?_, ?_, ?_, dfs, dn_cons ho dnc ht, dnl, ?_⟩
  · by_cases hw : wrt ops t = some i
    · have hdt : o.dst = some t := by obtain ⟨o3, q1, q2⟩ := wrt_some hw; rw [ho] at q1; cases q1; exact q2
      have : aval ops a0 (updV vs i v) L t = v := by unfold aval; rw [hw]; dsimp only; rw [if_pos hL, updV_at]
      rw [this, e5 t hdt, ← hr1]; exact hvr
    · have : aval ops a0 (updV vs i v) L t = aval ops a0 vs L t := by
        unfold aval
        cases hw2 : wrt ops t with
        | none => rfl
        | some j => dsimp only; rw [updV_ne (fun h => hw (by rw [hw2, h]))]
      rw [this]; exact (act.rel t).mono hle
  · intro q hq
    by_cases hqd : q ∈ done
    · exact .inl (List.mem_cons_of_mem _ hqd)
    · by_cases hqi : q = i
      · exact .inl (by rw [hqi]; exact List.mem_cons_self ..)
      · refine .inr ?_
        obtain ⟨o4, xf4, obj4, a4, g1, g2, g3, g4, g5, g6, g7, g8, g9⟩ := (i1 q hq).resolve_left hqd
        refine ⟨o4, xf4, obj4, a4, g1, g2, g3, g4, g5, g6, g7, g8, fun j l' hj ej hb => ?_⟩
        rw [← hσ] at ej
        by_cases hjn : j = h.nx
        · simp only [hjn, if_true, Option.some.injEq] at ej
          subst ej
          exact hqi (dis q i hq hqd hL ht.new hb.symm)
        · simp only [hjn, if_false] at ej
          refine g9 j l' ?_ ej hb
          unfold HP.live at *
          rwa [get_new, if_neg hjn] at hj
  · intro q hq
    rw [updV_ne (fun h => hq (by rw [h]; exact List.mem_cons_self ..))]; exact vun q (fun h => hq (List.mem_cons_of_mem _ h))
  · exact fun q q' h1 h2 h3 h4 => dis q q' h1 (fun h => h2 (List.mem_cons_of_mem _ h)) h3 (fun h => h4 (List.mem_cons_of_mem _ h))
  · intro q hq o' ho' hl'
    cases hq with
    | head => exact hL
    | tail _ hq => exact i2 q hq o' ho' hl'
  · intro q hq hqL
    have hqi : q ≠ i := fun h => hqL (by rw [h]; exact hL)
    have hqd : q ∈ done := by cases hq with | head => exact absurd rfl hqi | tail _ hq => exact hq
    obtain ⟨oq, dsq, lq, eq, tmq, S, g1, g2, g3, g4, g5, g6⟩ := pi q hqd hqL
    rcases g6 with g6 | ⟨g6, _⟩
    · refine ⟨oq, dsq, lq, eq, tmq, S, g1, g2.mono hle, fun j hj => List.mem_cons_of_mem _ (g3 j hj), fun t ht' => ?_, g5, .inl (by rw [updV_ne hqi]; exact g6)⟩
      rw [g4 t ht', aval_chg fun j hj => updV_ne (hne j (g3 j hj)) v]
    · have hb : bef b q i = false := by
        cases hb : bef b q i with
        | false => rfl
        | true => exact absurd (by rw [hR.bq] at hb; exact bef_ok' dnl hb hL) hqL
      obtain ⟨k, hk⟩ := List.getElem?_of_mem hqd
      have hcode := ckL_mem done 1 k1 k q oq hk g1 g6 hb
      rw [show 1 + k = k + 1 from by omega, nth' (k + 1) q (by simpa using hk)] at hcode
      refine ⟨oq, _, _, _, _, (· ∈ i :: done), g1, lr', fun j hj => hj, fun t _ => crd' t, ?_, .inr ⟨g6, hcode⟩⟩
      intro o' t j ho' ht' hw
      rw [g1] at ho'; cases ho'
      refine ⟨fun hj => List.mem_cons_of_mem _ (by rw [hR.bq] at hj; exact bef_ok' (L := fun x => x ∈ done) dnc hj hqd), fun hj => ht.again hl q hqd oq g1 g6 hb t ht' j hw hj⟩
  · intro j hj
    rcases tot j hj with h' | h'
    · exact .inl (List.mem_cons_of_mem _ h')
    · cases h' with
      | head => exact .inl (List.mem_cons_self ..)
      | tail _ h' => exact .inr h'
def updR (rr : Nat → Nat) (i r : Nat) : Nat → Nat := fun q => if q = i then r else rr q
theorem updR_at (i r : Nat) : updR rr i r i = r := if_pos rfl
theorem updR_ne {i q : Nat} (h : q ≠ i) (r : Nat) : updR rr i r q = rr q := if_neg h
/-- what is laid comes early -/
theorem St.early (hF : ∀ f, F.fn f) (hke : KeOk T P cl eo kc) (hR : RegOk qx eo ops n b ord) {i c : Nat} {r : List Nat} {o oc : Oper} (ho : ops[i]? = some o) (hoc : ops[c]? = some oc) (hl : loudO qx oc.op = true) (he : eo o.op = true) (hir : i ∈ r) (haft : aftIn done o.after.toList = true)
    (s : St T P qx eo rr lv n cl ops kc b a0 K d dl ρ0 h0 w0 done ds (c :: r) l e ρ h w vs L a) (hnl : ¬ L i) (hrd : Rdy ops L i) {Kn : Act → World → Prop}
    (hK : ∀ rr' w' a', St T P qx eo rr' lv n cl ops kc b a0 K d dl ρ0 h0 w0 done ds (c :: r) l e ρ h w' vs (fun j => L j ∨ j = i) a' → Kn a' w') : wpOpJ F m P ops i Kn a w := by
  have hrdE := s.rdE hR (q := i) hnl
  have hnd : i ∉ done := fun hh => (s.chk.eov ho he (List.mem_cons_of_mem _ hir)).1 hh
  obtain ⟨hgd, hrds⟩ := Chk.eovAll hR ho he
  obtain ⟨hy, chk, ⟨tm, lr⟩, crd, nth, act, post, i1, vun, dis, i2, pi, dfs, dnc, dnl, tot⟩ := s
  have g := post.good
  have hdok := hR.dok i o ho
  have hrdC : Rdy ops (· ∈ done) i := fun o' ho' e' he' hb' => by rw [ho] at ho'; cases ho'; exact aftIn_ok haft e' (by simpa using he') hb'
  have hlw : ∀ t ∈ o.looksAt ops, aval ops a0 vs (· ∈ done) t = aval ops a0 vs L t := by
    intro t ht'
    unfold aval
    cases hw : wrt ops t with
    | none => rfl
    | some j =>
      dsimp only
      have hb := hrds t ht' j hw
      rw [hR.bq] at hb
      have h1 : j ∈ done := bef_ok (L := fun x => x ∈ done) dnc hb hrdC
      have h2 : L j := bef_ok dnl hb hrd
      rw [if_pos h1, if_pos h2]
  obtain ⟨a', hr', hsame⟩ := lr.mix act.size (o.looksAt ops) (fun t ht => by rw [crd t, hlw t ht]; exact act.rel t)
  have heval : ∀ x ∈ o.op.operands, a.eval x = a'.eval x := eval_same hsame
  have hnmv : isMv oc.op = false := by unfold loudO at hl; cases hm : isMv oc.op with | false => rfl | true => rw [hm] at hl; cases hl
  have hy0 := hy
  unfold dlOf at hy
  rw [hoc] at hy
  dsimp only at hy
  rw [hl] at hy
  have hpre := pkL_mem ho he haft (pkC_run hy).1 hir
  obtain ⟨xf, obj, ab, v, sz, f1, _, _⟩ := hke.run ρ h l e a'.eval _ (ooOf ds) o he (hr'.oo rfl) hpre
  have hrunA : ∀ w, (execOp a.eval o).run P w = .ok (.value (xf w.heap.size)) (w.alloc obj) := fun w => by
    rw [execOp_congr o (fun cs bb hc => hke.sel o he cs bb hc) heval]; exact f1 w
  unfold wpOpJ
  rw [ho]
  dsimp only
  rw [if_pos (by unfold Region.wanted; rw [hgd])]
  refine jop_of ⟨about_ok hF o a w, ?_⟩
  rw [Oper.semAt_eq _ _ _ (fun c hc => hke.dfr o he c hc), hrunA w]
  have hh : (w.alloc obj).heap = w.heap.push obj := rfl
  have hgrow := Post.grow g obj
  refine hK (updR rr i w.heap.size) (w.alloc obj) (a.put o.dst (xf w.heap.size)) ⟨hy0, chk, ⟨tm, lr⟩, crd, nth, ?_, post.trans hgrow, ?_, vun, ?_, fun q h1 o' h2 h3 => .inl (i2 q h1 o' h2 h3), fun q h1 h2 => pi q h1 (fun h => h2 (.inl h)), ?_, dnc, ?_, tot⟩
  · exact act.put hR.uniq ho hdok (fun _ _ => rfl) (fun j => Iff.rfl) (by rw [vun i hnd]; exact .un _)
  · rintro j (hj | rfl)
    · by_cases hjd : j ∈ done
      · exact .inl hjd
      · refine .inr ?_
        have hji : j ≠ i := fun h => hnl (by rw [← h]; exact hj)
        obtain ⟨o4, xf4, obj4, a4, g1, g2, g3, g4, g5, g6, g7, g8, g9⟩ := (((i1 j hj).resolve_left hjd).post hgrow).put hR.uniq ho hji (hrdE j hj hjd) (xf w.heap.size)
        exact ⟨o4, xf4, obj4, a4, g1, g2, g3, g4, by rw [updR_ne hji]; exact g5, by rw [updR_ne hji]; exact g6, by rw [updR_ne hji]; exact g7, by rw [updR_ne hji]; exact g8, by rw [updR_ne hji]; exact g9⟩
    · refine .inr ⟨o, xf, obj, a, ho, he, hrunA, fun t ht => ?_, fun dd hdd => ?_, ?_, ?_, ?_, fun k l' hk ek hb => ?_⟩
      · cases hd : o.dst with
        | none => rfl
        | some dd =>
          have hne : dd ≠ t := fun e0 => by
            have hb := hrds t ht j (wrt_of hR.uniq ho (by rw [hd, e0]))
            rw [hR.bq] at hb
            exact hnl (bef_ok dnl hb hrd)
          show _ = (a.tmps.setIfInBounds dd _).getD t undef
          simp [Array.getD_eq_getD_getElem?, Array.getElem?_setIfInBounds_ne hne]
      · rw [hdd] at hdok
        simp only [dOk, Bool.and_eq_true, Nat.blt_eq] at hdok
        rw [updR_at, hdd]
        show (a.tmps.setIfInBounds dd _).getD dd undef = _
        rw [getD_set _ _ _ _ (by rw [act.size]; exact hdok.1), if_pos rfl]
      · rw [updR_at]; exact post.size
      · rw [updR_at, hh]; simp
      · rw [updR_at, hh]; simp
      · rw [updR_at] at hb
        obtain ⟨l2, o2, q1, q2, _⟩ := g.blk k hk
        rw [ek] at q1; cases q1
        have := (Array.getElem?_eq_some_iff.1 q2).1
        omega
  · intro q1 q2 h1 h2 h3 h4 h5
    by_cases hq1 : q1 = i
    · by_cases hq2 : q2 = i
      · rw [hq1, hq2]
      · exfalso
        obtain ⟨_, _, _, _, _, _, _, _, _, _, g7, _, _⟩ := (i1 q2 (h3.resolve_right hq2)).resolve_left h4
        rw [hq1, updR_at, updR_ne hq2] at h5
        omega
    · by_cases hq2 : q2 = i
      · exfalso
        obtain ⟨_, _, _, _, _, _, _, _, _, _, g7, _, _⟩ := (i1 q1 (h1.resolve_right hq1)).resolve_left h2
        rw [hq2, updR_at, updR_ne hq1] at h5
        omega
      · rw [updR_ne hq1, updR_ne hq2] at h5
        exact dis q1 q2 (h1.resolve_right hq1) h2 (h3.resolve_right hq2) h4 h5
  · rw [put_defers]; exact dfs
  · rintro j o' ho' (hj | rfl) e' he' hb'
    · exact .inl (dnl j o' ho' hj e' he' hb')
    · exact .inl (hrd o' ho' e' he' hb')
/-- up to what is loud -/
theorem St.norm (heo : ∀ o, eo o = true → loudO qx o = true) (hqx : QxOk qx) (hF : ∀ f, F.fn f) (hkq : KqOk T P F m cl qx kc) (hke : KeOk T P cl eo kc) (hR : RegOk qx eo ops n b ord) : ∀ (rest done : List Nat) (ds : List (Option Nat)) (l : LS) (e : Tr AV) (ρ : Rho) (h : HP) (vs : Nat → AV), St T P qx eo rr lv n cl ops kc b a0 K d dl ρ0 h0 w0 done ds rest l e ρ h w vs L a →
    ∃ done' ds' rest' l' e' ρ' h' vs', St T P qx eo rr lv n cl ops kc b a0 K d dl ρ0 h0 w0 done' ds' rest' l' e' ρ' h' w vs' L a ∧ (rest' = [] ∨ ∃ i r o, rest' = i :: r ∧ ops[i]? = some o ∧ loudO qx o.op = true ∧ ¬ L i)
  | [], done, ds, l, e, ρ, h, vs, s => ⟨_, _, _, _, _, _, _, _, s, .inl rfl⟩
  | i :: r, done, ds, l, e, ρ, h, vs, s => by
    have hc := s.chk
    cases hc with
    | @cons _ _ o _ ho ht _ ck =>
      cases hl : loudO qx o.op with
      | true =>
        by_cases hL : L i
        · obtain ⟨ds', l', e', ρ', h', vs', s'⟩ := s.adopt hke hR ho hl hL
          exact St.norm heo hqx hF hkq hke hR r _ _ _ _ _ _ _ s'
        · exact ⟨_, _, _, _, _, _, _, _, s, .inr ⟨i, r, o, rfl, ho, hl, hL⟩⟩
      | false =>
        obtain ⟨ds', l', e', vs', s'⟩ := s.adv heo hqx hF hkq hR ho hl
        exact St.norm heo hqx hF hkq hke hR r _ _ _ _ _ _ _ s'
def cnt (ops : Array Oper) (listed : Array Bool) : Nat := (List.range ops.size).countP fun j => !listed.getD j true
theorem countP_lt {p q : Nat → Bool} : ∀ {l : List Nat}, (∀ x ∈ l, q x = true → p x = true) → (∃ x ∈ l, p x = true ∧ q x = false) → l.countP q < l.countP p
  | [], _, h => by obtain ⟨x, hx, _⟩ := h; cases hx
  | y :: l, h1, h2 => by
    rw [List.countP_cons, List.countP_cons]
    have hle : l.countP q ≤ l.countP p := List.countP_mono_left (fun x hx hq => h1 x (List.mem_cons_of_mem _ hx) hq)
    obtain ⟨x, hx, hp, hq⟩ := h2
    cases hx with
    | head => rw [hp, hq]; simp; omega
    | tail _ hx =>
      have := countP_lt (fun x hx hq => h1 x (List.mem_cons_of_mem _ hx) hq) ⟨x, hx, hp, hq⟩
      cases hqy : q y with
      | true => have h3 := h1 y (List.mem_cons_self ..) hqy; simp [h3]; omega
      | false => cases hpy : p y <;> simp <;> omega
theorem cnt_set {listed : Array Bool} {i : Nat} (hs : listed.size = ops.size) (hi : listed.getD i true = false) : cnt ops (listed.setIfInBounds i true) < cnt ops listed := by
  have hlt : i < listed.size := by
    rcases Nat.lt_or_ge i listed.size with h | h
    · exact h
    · rw [Array.getD_eq_getD_getElem?, Array.getElem?_eq_none h] at hi; cases hi
  refine countP_lt (fun x _ hx => ?_) ⟨i, by simp; omega, by simp [hi], ?_⟩
  · by_cases hxi : i = x
    · subst hxi; simp [hi]
    · rwa [getD_set_ne true hxi] at hx
  · simp [Array.getD_eq_getD_getElem?, Array.getElem?_setIfInBounds, hlt]
theorem getD_tf {listed : Array Bool} {i : Nat} (hi : i < listed.size) : (listed.getD i true = false ↔ ¬ listed.getD i false = true) := by
  simp [Array.getD_eq_getD_getElem?, Array.getElem?_eq_getElem hi]
/-- EVERY ORDER COMES TO THE SAME -/
theorem draw_any (heo : ∀ o, eo o = true → loudO qx o = true) (hqx : QxOk qx) (hF : ∀ f, F.fn f) (hkq : KqOk T P F m cl qx kc) (hke : KeOk T P cl eo kc) (hkc : KmOk T P F m cl kc) (hR : RegOk qx eo ops n b ord) {Q : Exit → Act → World → Prop}
    (fin : ∀ σ e' h' w' a', K e' d h' = .yes → Post T ρ0 h0 w0 σ h' w' → LR lv n σ [] .nil e' a'.tmps → a'.defers = dl → Q .normal a' w') :
    ∀ (fuel : Nat) (listed : Array Bool) (rr : Nat → Nat) (done : List Nat) (ds : List (Option Nat)) (rest : List Nat) (l : LS) (e : Tr AV) (ρ : Rho) (h : HP) (w : World) (vs : Nat → AV) (a : Act), listed.size = ops.size → cnt ops listed ≤ fuel →
      St T P qx eo rr lv n cl ops kc b a0 K d dl ρ0 h0 w0 done ds rest l e ρ h w vs (fun j => listed.getD j false = true) a → jAny F m P .any ops Q fuel listed a w := by
  intro fuel
  have done_fin : ∀ (listed : Array Bool) (rr : Nat → Nat) (done : List Nat) (ds : List (Option Nat)) (rest : List Nat) (l : LS) (e : Tr AV) (ρ : Rho) (h : HP) (w : World) (vs : Nat → AV) (a : Act), listed.size = ops.size →
      St T P qx eo rr lv n cl ops kc b a0 K d dl ρ0 h0 w0 done ds rest l e ρ h w vs (fun j => listed.getD j false = true) a → Region.ready .any ops listed = [] → Q .normal a w := by
    intro listed rr done ds rest l e ρ h w vs a hsz s hre
    have hrdy : ∀ i o, ops[i]? = some o → Rdy ops (fun j => listed.getD j false = true) i → listed.getD i false = true := by
      intro i o ho hr
      have hi : i < ops.size := (Array.getElem?_eq_some_iff.1 ho).1
      cases hc : listed.getD i false with
      | true => rfl
      | false =>
        have : i ∈ Region.ready .any ops listed := mem_ready.2 ⟨(getD_tf (by rw [hsz]; exact hi)).2 (by rw [hc]; simp), o, ho, fun e' he' hb' => hr o ho e' he' hb'⟩
        rw [hre] at this; cases this
    have hall : ∀ q ∈ ord, listed.getD q false = true := hR.chk.listed hrdy (fun q hq => by cases hq)
    obtain ⟨done, ds, rest, l, e, ρ, h, vs, s, hn⟩ := St.norm heo hqx hF hkq hke hR rest done ds l e ρ h vs s
    have hrest : rest = [] := by
      rcases hn with hn | ⟨c, r, oc, rfl, hoc, _, hnl⟩
      · exact hn
      · exact absurd (hall c (hR.cover c (Array.getElem?_eq_some_iff.1 hoc).1)) hnl
    subst hrest
    obtain ⟨tm, lr⟩ := s.lr
    have hLR : LR lv n ρ ds l e a.tmps := by
      refine ⟨fun t => ?_, lr.live, lr.dead, s.act.size⟩
      rw [s.crd t]
      have := s.act.rel t
      have heq : aval ops a0 vs (· ∈ done) t = aval ops a0 vs (fun j => listed.getD j false = true) t := by
        unfold aval
        cases hw : wrt ops t with
        | none => rfl
        | some j =>
          obtain ⟨o, ho, _⟩ := wrt_some hw
          have hjl := (Array.getElem?_eq_some_iff.1 ho).1
          have hj := hall j (hR.cover j hjl)
          have hjd : j ∈ done := (s.tot j hjl).resolve_right (by simp)
          dsimp only
          rw [if_pos hjd, if_pos hj]
      rw [heq]; exact this
    exact fin ρ e h w a s.hy s.post hLR.over s.dfs
  induction fuel with
  | zero =>
    intro listed rr done ds rest l e ρ h w vs a hsz hcnt s
    have hre : Region.ready .any ops listed = [] := by
      cases hr : Region.ready .any ops listed with
      | nil => rfl
      | cons i r =>
        have hi : i ∈ Region.ready .any ops listed := by rw [hr]; exact List.mem_cons_self ..
        obtain ⟨h1, _⟩ := mem_ready.1 hi
        have := cnt_set hsz h1
        omega
    exact ⟨hre, done_fin listed rr done ds rest l e ρ h w vs a hsz s hre⟩
  | succ fuel ih =>
    intro listed rr done ds rest l e ρ h w vs a hsz hcnt s
    refine ⟨fun hre => done_fin listed rr done ds rest l e ρ h w vs a hsz s hre, fun i hi => ?_⟩
    obtain ⟨hil, o, ho, hrd⟩ := mem_ready.1 hi
    have hilt : i < ops.size := (Array.getElem?_eq_some_iff.1 ho).1
    have hnl : ¬ (fun j => listed.getD j false = true) i := (getD_tf (by rw [hsz]; exact hilt)).1 hil
    have hRdy : Rdy ops (fun j => listed.getD j false = true) i := fun o' ho' e' he' hb' => by rw [ho] at ho'; cases ho'; exact hrd e' he' hb'
    have hset : (fun j => (listed.setIfInBounds i true).getD j false = true) = fun j => listed.getD j false = true ∨ j = i := by
      funext j
      refine propext ⟨fun hj => ?_, fun hj => ?_⟩
      · by_cases hij : i = j
        · exact .inr hij.symm
        · rw [getD_set_ne false hij] at hj; exact .inl hj
      · rcases hj with hj | rfl
        · exact getD_set_true hj
        · simp [Array.getD_eq_getD_getElem?, Array.getElem?_setIfInBounds, hsz, hilt]
    have hsz' : (listed.setIfInBounds i true).size = ops.size := by simp [hsz]
    have hcnt' : cnt ops (listed.setIfInBounds i true) ≤ fuel := by have := cnt_set hsz hil; omega
    obtain ⟨done, ds, rest, l, e, ρ, h, vs, s, hn⟩ := St.norm heo hqx hF hkq hke hR rest done ds l e ρ h vs s
    by_cases hid : i ∈ done
    · exact s.old hF hkq hR hid hnl hRdy (fun w' a' s' => ih _ rr done ds rest l e ρ h w' vs a' hsz' hcnt' (by rw [hset]; exact s'))
    · rcases hn with rfl | ⟨c, r, oc, rfl, hoc, hl, hcl⟩
      · rcases s.tot i hilt with h1 | h1
        · exact absurd h1 hid
        · cases h1
      · by_cases hic : i = c
        · subst hic
          exact s.loud hF hkc hR hoc hl hnl hRdy (fun ds' l' e' σ h' w' vs' a' s' => ih _ rr _ ds' r l' e' σ h' w' vs' a' hsz' hcnt' (by rw [hset]; exact s'))
        · have hir : i ∈ r := by
            rcases s.tot i hilt with h1 | h1
            · exact absurd h1 hid
            · cases h1 with
              | head => exact absurd rfl hic
              | tail _ h1 => exact h1
          have hnb : bef b c i = false := by
            cases hb : bef b c i with
            | false => rfl
            | true => rw [hR.bq] at hb; exact absurd (bef_ok s.dnl hb hRdy) hcl
          have hc := s.chk
          cases hc with
          | @cons _ _ o' _ ho' ht hp ck =>
            rw [hoc] at ho'; cases ho'
            rcases ck.ahead hoc hl (List.mem_cons_self ..) i hir o ho with he | hb
            · rcases hp hl i hir o ho he with hb | haft
              · rw [hnb] at hb; cases hb
              · exact s.early hF hke hR ho hoc hl he hir haft hnl hRdy (fun rr' w' a' s' => ih _ rr' done ds (c :: r) l e ρ h w' vs a' hsz' hcnt' (by rw [hset]; exact s'))
            · rw [hnb] at hb; cases hb
/-- A REGION THAT DRAWS -/
theorem c_dregion {fl : Bool} (heo : ∀ o, eo o = true → loudO qx o = true) (hqx : QxOk qx) (hm : P.follows .mixedOrders = true) (hF : ∀ f, F.fn f) (hkq : KqOk T P F m cl qx kc) (hke : KeOk T P cl eo kc) (hkc : KmOk T P F m cl kc) {id : Nat} (hR : RegOk qx eo ops n b ord) : COk T P F m lv n N cl (DOf fl) (.region id ops true) (.dreg (dlOf qx eo kc lv ops b [] [] ord)) := by
  intro X K e d h w ρ a Q hy r hd g hK hX1 hX2
  refine j_region_any hm ?_
  have gw : Post T ρ h w ρ h { w with drawn := w.drawn + 1 } := ⟨Rho.le_refl _, ⟨fun i hi => g.blk i hi, g.inj, g.dom⟩, Nat.le_refl _, fun _ _ e _ => e, Nat.le_refl _, fun _ _ _ => rfl, fun i l hl e => .inl ⟨i, l, hl, e, rfl⟩, rfl, rfl, rfl⟩
  have hrep : ∀ j, ¬ (Array.replicate ops.size false).getD j false = true := fun j hj => by
    simp [Array.getD_eq_getD_getElem?, Array.getElem?_replicate] at hj; split at hj <;> simp at hj
  refine draw_any (lv := lv) (a0 := fun t => rd .nil e (toOf [] t)) (K := K) (d := d) (dl := a.defers) (ρ0 := ρ) (h0 := h) (w0 := { w with drawn := w.drawn + 1 }) heo hqx hF hkq hke hkc hR (fun σ e' h' w' a' h1 h2 h3 h4 => hK σ e' d h' w' a' h1 (gw.trans h2) h3 (by rw [h4]; exact hd.mono h2.le))
    ops.size (Array.replicate ops.size false) (fun _ => 0) [] [] ord .nil e ρ h _ (fun _ => .un) a (by simp) (by unfold cnt; exact Nat.le_trans List.countP_le_length (by simp)) ?_
  refine ⟨hy, hR.chk, ⟨_, r⟩, fun t => ?_, fun k q hk => by simp at hk, ⟨r.size, fun t => ?_⟩, .refl gw.good, fun q hq => absurd hq (hrep q), fun _ _ => rfl, fun q _ hq => absurd hq (hrep q), (fun q hq => by cases hq), (fun q hq => by cases hq), rfl, (fun i o _ hi => by cases hi), fun i o _ hi => absurd hi (hrep i), fun i hi => .inr (hR.cover i hi)⟩
  · exact (aval_none (a0 := fun t => rd LS.nil e (toOf [] t)) (S := fun x : Nat => x ∈ ([] : List Nat)) t (fun j hj => by cases hj)).symm
  · rw [aval_none t hrep]
    exact r.rel t
end
end
end Ev
namespace Ev
noncomputable section
open Go Go.Conc
section
variable {T : Tb} {ρ σ : Rho} {h : HP} {w : World} {P : Program} {n m N : Nat} {F : Fence} {cl : Cl}

/-! ### the table of functions -/
theorem ClOk.inRound (hcl : ClOk T P F cl) (l : Nat) : ClOk T P (F.inRound l) cl := ⟨hcl.f, hcl.d, hcl.x, hcl.v⟩
structure CodeAt (T : Tb) (P : Program) (F : Fence) (df : Bool) (np : Nat) (res : List (Ps × Option (Nat × Bool))) (f : Nat) (fn : Func) (c : Code) (lv : Nat → Bool) : Prop where
  at_ : P.funcs[f]? = some fn
  call : IsFn P f
  body : fn.body = some c
  res : rvsOf P fn.results.toList = some res
  npl : np ≤ fn.ntmps
  liv : ∀ t, lv t = false → np ≤ t
def CodeOk (T : Tb) (P : Program) (F : Fence) (df : Bool) (np : Nat) (res : List (Ps × Option (Nat × Bool))) (body : EC) (f : Nat) : Prop :=
  ∃ fn c lv, CodeAt T P F df np res f fn c lv ∧ ∀ (N : Nat) (cl : Cl), ClOk T P F cl → COk T P F 0 lv fn.ntmps N cl (DOf df) c body
def PrimOk (T : Tb) (P : Program) (F : Fence) (g : CV → HP → Kv → R) (f : Nat) : Prop :=
  ∀ (ρ : Rho) (h : HP) (w : World) (c : CV) (K : Kv) (vals : Array Value), g c h K = .yes → Good T ρ h w → AL ρ c.exp vals.toList → c.wf → IsFn P f ∧ CallsIn F 0 P f vals w (Ret T ρ h w K)
def ExtOk (T : Tb) (P : Program) (g : CV → HP → Kv → R) (f : Nat) : Prop :=
  ∀ (ρ : Rho) (h : HP) (w : World) (c : CV) (K : Kv) (vals : Array Value), g c h K = .yes → Good T ρ h w → AL ρ c.exp vals.toList → c.wf → Xok T P ρ h w K f vals
def EFOk (T : Tb) (P : Program) (F : Fence) (f : Nat) : EF → Prop
  | .none => True
  | .code df np res body => CodeOk T P F df np res body f
  | .join np res b1 body => CodeOk T P F false np res body f
  | .pr g => PrimOk T P F g f
  | .ext g => ExtOk T P g f
theorem Ret.not_panic {K : Kv} (ch : List PanicEntry) (w' : World) : ¬ Ret T ρ h w K (.panicked ch) w' := fun ⟨_, _, _, _, h, _⟩ => by cases h
theorem Ret.not_out {K : Kv} (w' : World) : ¬ Ret T ρ h w K .outgrown w' := fun ⟨_, _, _, _, h, _⟩ => by cases h
theorem CodeOk.go {df : Bool} {np : Nat} {res : List (Ps × Option (Nat × Bool))} {body : EC} {f : Nat} (hF : ∀ f, F.fn f) (hdep : F.depth = none) (hro : F.round = none) (hc : CodeOk T P F df np res body f) (hcl : ClOk T P F cl) {xs : CV} {vals : Array Value} {K : Kv}
    (hn : xs.len ≤ np) (hy : runC cl N body (bodyX cl res K) (fin cl res K) (args0 xs .h .e) [] h = .yes) (g : Good T ρ h w) (ha : AL ρ xs.exp vals.toList) :
    IsFn P f ∧ CallsIn F 0 P f vals w (Ret T ρ h w K) ∧ (df = false → CallsDIn F 0 P f vals .returning w (fun en u w' => u = .returning ∧ Ret T ρ h w K en w')) := by
  obtain ⟨fn, c, lv, hat, hcok⟩ := hc
  have hfn : IsFn P f := hat.call
  have hlen : xs.exp.length = vals.size := by have := ha.length; simpa using this
  rw [exp_len] at hn
  have hs : vals.size ≤ fn.ntmps := by have := hat.npl; omega
  have hlv : ∀ t, lv t = false → xs.exp.length ≤ t := fun t ht => by have := hat.liv t ht; omega
  refine ⟨hfn, ?_, ?_⟩
  · cases df with
    | false => exact callsIn_of_j hat.at_ hat.body (hF f) hro (fn_body (hcok N cl hcl) hat.res hy g ha hs hlv) (fun ch w' => Ret.not_panic ch w') (fun w' => Ret.not_out w')
    | true => exact callsIn_of_j_defers hat.at_ hat.body hF hdep hro (fn_bodyD hF hdep hcl (hcok N cl hcl) hat.res hy g ha hs hlv)
  · intro hdf
    subst hdf
    exact callsDIn_of_j hat.at_ hat.body (hF f) hro (fn_body (hcok N cl hcl) hat.res hy g ha hs hlv) (fun ch w' => Ret.not_panic ch w') (fun w' => Ret.not_out w')
theorem callF_ok {ef : EF} {f : Nat} (hF : ∀ f, F.fn f) (hdep : F.depth = none) (hro : F.round = none) (he : EFOk T P F f ef) (hcl : ClOk T P F cl) {xs : CV} {vals : Array Value} {K : Kv}
    (hy : callF cl N xs h K ef = .yes) (g : Good T ρ h w) (ha : AL ρ xs.exp vals.toList) (hw : xs.wf) : IsFn P f ∧ CallsIn F 0 P f vals w (Ret T ρ h w K) := by
  cases ef with
  | none => exact no_yes hy
  | pr g' => exact he ρ h w xs K vals hy g ha hw
  | ext g' => exact no_yes hy
  | code df np res body =>
    have hy : bf (Nat.ble (CL.len xs) np) (runC cl N body (bodyX cl res K) (fin cl res K) (args0 xs .h .e) [] h) .no = .yes := hy
    obtain ⟨h1, h2⟩ := bf_yes' hy
    obtain ⟨q1, q2, _⟩ := CodeOk.go hF hdep hro he hcl (Nat.le_of_ble_eq_true h1) h2 g ha
    exact ⟨q1, q2⟩
  | join np res b1 body =>
    have hy : bf (Nat.ble (CL.len xs) np) (joinR (runC cl N b1 (bodyX cl res .vl) (fin cl res .vl) (args0 xs .h .e) [] h) (fun v k => runC cl N body (bodyX cl res fun u j => R.of (sameR u v j k)) (fin cl res fun u j => R.of (sameR u v j k)) (args0 xs .h .e) [] h) K) .no = .yes := hy
    obtain ⟨h1, h2⟩ := bf_yes' hy
    unfold joinR at h2
    split at h2
    · rename_i v k _
      unfold R.both at h2
      obtain ⟨h3, h4⟩ := bf_yes' h2
      obtain ⟨q1, q2, _⟩ := CodeOk.go hF hdep hro he hcl (Nat.le_of_ble_eq_true h1) (is_yes h3) g ha
      refine ⟨q1, q2.mono fun en w' hr => ?_⟩
      obtain ⟨v', σ, h', x, rfl, r1, r2, r3⟩ := hr
      obtain ⟨rfl, rfl⟩ := sameR_eq r1
      exact ⟨v', σ, h', x, rfl, h4, r2, r3⟩
    · exact no_yes h2
/-- WHAT THE EVALUATOR SAYS OF CALLS IS TRUE -/
theorem E_ok {Pr : Pr} {RT : Nat → Nat → Option RE} (hT : T.ofL = tbL RT) (hF : ∀ f, F.fn f) (hdep : F.depth = none) (hro : F.round = none) (hR : RndOk T P F Pr RT) (hfs : ∀ p : Ps, EFOk T P F p.idx (Tr.get .none p Pr.fs)) : ∀ N, ClOk T P F (E Pr N)
  | 0 => ⟨fun ρ h w f c K vals hy => no_yes hy, fun ρ h w f c K vals hy => no_yes hy, fun ρ h w f c K vals hy => no_yes hy, fun ρ h w v c K hy => no_yes hy⟩
  | N + 1 => by
    have hcl := E_ok hT hF hdep hro hR hfs N
    refine ⟨fun ρ h w f c K vals hy g ha hw => callF_ok (N := N) hF hdep hro (hfs f) hcl hy g ha hw, fun ρ h w f c K vals hy g ha hw => ?_, fun ρ h w f c K vals hy g ha hw => ?_, fun ρ h w v c K hy g => ?_⟩
    · have hy : callD (E Pr N) N c h K (Tr.get .none f Pr.fs) = .yes := hy
      have he := hfs f
      unfold callD at hy
      split at hy
      · rename_i np res body hef
        rw [hef] at he
        have hy : bf (Nat.ble (CL.len c) np) (runC (E Pr N) N body (bodyX (E Pr N) res K) (fin (E Pr N) res K) (args0 c .h .e) [] h) .no = .yes := hy
        obtain ⟨h1, h2⟩ := bf_yes' hy
        obtain ⟨q1, _, q3⟩ := CodeOk.go hF hdep hro he hcl (Nat.le_of_ble_eq_true h1) h2 g ha
        exact ⟨q1, q3 rfl⟩
      · rename_i np res b1 body hef
        rw [hef] at he
        have hy : bf (Nat.ble (CL.len c) np) (joinR (runC (E Pr N) N b1 (bodyX (E Pr N) res .vl) (fin (E Pr N) res .vl) (args0 c .h .e) [] h) (fun v k => runC (E Pr N) N body (bodyX (E Pr N) res fun u j => R.of (sameR u v j k)) (fin (E Pr N) res fun u j => R.of (sameR u v j k)) (args0 c .h .e) [] h) K) .no = .yes := hy
        obtain ⟨h1, h2⟩ := bf_yes' hy
        unfold joinR at h2
        split at h2
        · rename_i v k _
          unfold R.both at h2
          obtain ⟨h3, h4⟩ := bf_yes' h2
          obtain ⟨q1, _, q3⟩ := CodeOk.go hF hdep hro he hcl (Nat.le_of_ble_eq_true h1) (is_yes h3) g ha
          refine ⟨q1, (q3 rfl).mono fun en u w' hr => ?_⟩
          obtain ⟨hu, v', σ, h', x, rfl, r1, r2, r3⟩ := hr
          obtain ⟨rfl, rfl⟩ := sameR_eq r1
          exact ⟨hu, v', σ, h', x, rfl, h4, r2, r3⟩
        · exact no_yes h2
      · exact no_yes hy
    · have hy : callX c h K (Tr.get .none f Pr.fs) = .yes := hy
      have he := hfs f
      unfold callX at hy
      split at hy
      · rename_i g' hef
        rw [hef] at he
        exact he ρ h w c K vals hy g ha hw
      · exact no_yes hy
    · have hy : callV Pr (E Pr N) N c h K v = .yes := hy
      unfold callV at hy
      split at hy
      · exact .inl ⟨_, _, _, rfl, hy⟩
      · obtain ⟨lc, hl, hround⟩ := yl_ok hT hF hR hcl hy g
        exact .inr ⟨_, lc, rfl, hl, hround⟩
      · exact no_yes hy
end
end
end Ev
namespace Ev
noncomputable section
open Go Go.Conc
section
variable {P : Program} {qx eo : Op → Bool} {ops : Array Oper} {n : Nat}

/-! ### is an order well chosen? -/
def eqNL : List Nat → List Nat → Bool
  | [], [] => true
  | a :: r, b :: s => Nat.beq a b && eqNL r s
  | _, _ => false
theorem eqNL_eq : ∀ {l k : List Nat}, eqNL l k = true → l = k
  | [], [], _ => rfl
  | a :: r, b :: s, h => by
    simp only [eqNL, Bool.and_eq_true] at h
    rw [Nat.eq_of_beq_eq_true h.1, eqNL_eq h.2]
def tb (m i : Nat) : Bool := Nat.beq (Nat.land (Nat.shiftRight m i) 1) 1
theorem tb_eq (m i : Nat) : tb m i = m.testBit i := by
  show Nat.beq ((m >>> i) &&& 1) 1 = _
  rw [Nat.testBit, Nat.and_comm]
  have h2 : 1 &&& (m >>> i) = 0 ∨ 1 &&& (m >>> i) = 1 := by
    have := Nat.and_le_left (n := 1) (m := m >>> i)
    omega
  rcases h2 with h | h <;> rw [h] <;> rfl
def befL (bm : List Nat) (j i : Nat) : Bool := tb (bm.getD i 0) j
def afterB (dm : Nat) : List Edge → Bool
  | [] => true
  | e :: r => (!(Region.binds .any e) || tb dm e.on) && afterB dm r
def rdB (ops : Array Oper) (bm : List Nat) (i : Nat) : List Tmp → Bool
  | [] => true
  | t :: r => (match wrt ops t with | none => true | some j => befL bm j i || befL bm i j) && rdB ops bm i r
def agB1 (ops : Array Oper) (bm : List Nat) (dm q : Nat) : List Tmp → Bool
  | [] => true
  | t :: r => (match wrt ops t with | none => true | some j => !(befL bm q j) || !(tb dm j)) && agB1 ops bm dm q r
def agB (qx : Op → Bool) (ops : Array Oper) (bm : List Nat) (dm i : Nat) : List Nat → Bool
  | [] => true
  | q :: r => (match ops[q]? with
    | none => true
    | some o => !(qx o.op) || (befL bm q i || agB1 ops bm dm q (o.looksAt ops))) && agB qx ops bm dm i r
def uqB (ops : Array Oper) (i : Nat) : Option Nat → Bool
  | none => true
  | some t => match wrt ops t with | none => false | some j => Nat.beq j i
def erB (ops : Array Oper) (bm : List Nat) (i : Nat) : List Tmp → Bool
  | [] => true
  | t :: r => (match wrt ops t with | none => true | some j => befL bm j i) && erB ops bm i r
def prB (eo : Op → Bool) (ops : Array Oper) (bm done : List Nat) (i : Nat) : List Nat → Bool
  | [] => true
  | a :: r => (match ops[a]? with
    | none => true
    | some oa => !(eo oa.op) || (befL bm i a || aftIn done oa.after.toList)) && prB eo ops bm done i r
def chkR (qx eo : Op → Bool) (ops : Array Oper) (n : Nat) (bm : List Nat) : List Nat → Nat → Nat → List Nat → Bool
  | _, _, _, [] => true
  | done, dm, lm, i :: r => match ops[i]? with
    | none => false
    | some o => !(tb dm i) && (afterB dm o.after.toList && ((eo o.op || Nat.beq (Nat.land lm (bm.getD i 0)) lm) && (((!(loudO qx o.op) || agB qx ops bm (Nat.lor dm (Nat.pow 2 i)) i done) && ((!(eo o.op) || (o.guard.isNone && erB ops bm i (o.looksAt ops))) && (!(loudO qx o.op) || prB eo ops bm done i r))) &&
        chkR qx eo ops n bm (i :: done) (Nat.lor dm (Nat.pow 2 i)) (bif loudO qx o.op then Nat.lor lm (Nat.pow 2 i) else lm) r)))
def opsB (ops : Array Oper) (n : Nat) (bm : List Nat) : List Oper → Nat → Bool
  | [], _ => true
  | o :: r, i => uqB ops i o.dst && (dOk n o.dst && (rdB ops bm i (o.looksAt ops) && opsB ops n bm r (Nat.add i 1)))
def covB (ord : List Nat) : Nat → Bool
  | 0 => true
  | i + 1 => ord.any (Nat.beq i) && covB ord i
def chkB (qx eo : Op → Bool) (ops : Array Oper) (n : Nat) (ord bm : List Nat) : Bool :=
  eqNL (Region.before ops).toList bm && (opsB ops n bm ops.toList 0 && (covB ord ops.size && chkR qx eo ops n bm [] 0 0 ord))
theorem befL_eq {bm : List Nat} (j i : Nat) : befL bm j i = bef bm.toArray j i := by
  unfold befL bef
  rw [tb_eq]
  simp [List.getD_eq_getElem?_getD, Array.getD_eq_getD_getElem?]
theorem afterB_ok {dm : Nat} : ∀ {l : List Edge}, afterB dm l = true → ∀ e ∈ l, Region.binds .any e = true → dm.testBit e.on = true
  | [], _, e, he, _ => by cases he
  | e' :: r, h, e, he, hb => by
    simp only [afterB, Bool.and_eq_true] at h
    cases he with
    | head => have := h.1; rw [hb] at this; simpa [tb_eq] using this
    | tail _ he => exact afterB_ok h.2 e he hb
theorem rdB_ok {bm : List Nat} {i : Nat} : ∀ {l : List Tmp}, rdB ops bm i l = true → ∀ t ∈ l, ∀ j, wrt ops t = some j → bef bm.toArray j i = true ∨ bef bm.toArray i j = true
  | [], _, t, ht, _, _ => by cases ht
  | t' :: r, h, t, ht, j, hj => by
    simp only [rdB, Bool.and_eq_true] at h
    cases ht with
    | head => have := h.1; rw [hj] at this; simpa [befL_eq] using this
    | tail _ ht => exact rdB_ok h.2 t ht j hj
theorem agB1_ok {bm : List Nat} {dm q : Nat} : ∀ {l : List Tmp}, agB1 ops bm dm q l = true → ∀ t ∈ l, ∀ j, wrt ops t = some j → bef bm.toArray q j = true → dm.testBit j = false
  | [], _, t, ht, _, _, _ => by cases ht
  | t' :: r, h, t, ht, j, hj, hb => by
    simp only [agB1, Bool.and_eq_true] at h
    cases ht with
    | head => have := h.1; rw [hj] at this; dsimp only at this; rw [befL_eq, hb] at this; simpa [tb_eq] using this
    | tail _ ht => exact agB1_ok h.2 t ht j hj hb
theorem agB_ok {bm : List Nat} {dm i : Nat} : ∀ {l : List Nat}, agB qx ops bm dm i l = true → ∀ q ∈ l, ∀ o', ops[q]? = some o' → qx o'.op = true → bef bm.toArray q i = false → ∀ t ∈ o'.looksAt ops, ∀ j, wrt ops t = some j → bef bm.toArray q j = true → dm.testBit j = false
  | [], _, q, hq, _, _, _, _, _, _, _, _, _ => by cases hq
  | q' :: r, h, q, hq, o', ho, hqq, hb, t, ht, j, hj, hbj => by
    simp only [agB, Bool.and_eq_true] at h
    cases hq with
    | head =>
      have := h.1
      rw [ho] at this
      dsimp only at this
      rw [hqq, befL_eq, hb] at this
      exact agB1_ok (by simpa using this) t ht j hj hbj
    | tail _ hq => exact agB_ok h.2 q hq o' ho hqq hb t ht j hj hbj
theorem erB_ok {bm : List Nat} {i : Nat} : ∀ {l : List Tmp}, erB ops bm i l = true → ∀ t ∈ l, ∀ j, wrt ops t = some j → bef bm.toArray j i = true
  | [], _, t, ht, _, _ => by cases ht
  | t' :: r, h, t, ht, j, hj => by
    simp only [erB, Bool.and_eq_true] at h
    cases ht with
    | head => have := h.1; rw [hj] at this; dsimp only at this; rwa [befL_eq] at this
    | tail _ ht => exact erB_ok h.2 t ht j hj
theorem prB_ok {bm done : List Nat} {i : Nat} : ∀ {l : List Nat}, prB eo ops bm done i l = true → ∀ a ∈ l, ∀ oa, ops[a]? = some oa → eo oa.op = true → bef bm.toArray i a = true ∨ aftIn done oa.after.toList = true
  | [], _, a, ha, _, _, _ => by cases ha
  | a' :: r, h, a, ha, oa, hoa, he => by
    simp only [prB, Bool.and_eq_true] at h
    cases ha with
    | head =>
      have := h.1
      rw [hoa] at this
      dsimp only at this
      rw [he, befL_eq] at this
      simpa using this
    | tail _ ha => exact prB_ok h.2 a ha oa hoa he
theorem lor_bit (m i j : Nat) : (Nat.lor m (Nat.pow 2 i)).testBit j = true ↔ m.testBit j = true ∨ j = i := by
  show (m ||| 2 ^ i).testBit j = true ↔ _
  rw [Nat.testBit_or, Nat.testBit_two_pow, Bool.or_eq_true, decide_eq_true_eq]
  exact ⟨fun h => h.imp id Eq.symm, fun h => h.imp id Eq.symm⟩
theorem chkR_ok {bm : List Nat} : ∀ (r done : List Nat) (dm lm : Nat), (∀ j, dm.testBit j = true ↔ j ∈ done) → (∀ j, lm.testBit j = true ↔ j ∈ done ∧ ∃ o, ops[j]? = some o ∧ loudO qx o.op = true) → chkR qx eo ops n bm done dm lm r = true → Chk qx eo ops n bm.toArray done r
  | [], done, _, _, _, _, _ => .nil done
  | i :: r, done, dm, lm, hd, hl, h => by
    unfold chkR at h
    cases ho : ops[i]? with
    | none => rw [ho] at h; cases h
    | some o =>
      rw [ho] at h
      simp only [Bool.and_eq_true] at h
      obtain ⟨h1, h2, h3, ⟨h4, h6, h7⟩, h5⟩ := h
      have hnew : i ∉ done := fun hi => by rw [tb_eq, (hd i).2 hi] at h1; cases h1
      have hd' : ∀ j, (Nat.lor dm (Nat.pow 2 i)).testBit j = true ↔ j ∈ i :: done := fun j => by
        rw [lor_bit, hd, List.mem_cons]; exact ⟨fun h => h.symm, fun h => h.symm⟩
      refine .cons ho ⟨hnew, fun e he hb => (hd _).1 (afterB_ok h2 e (by simpa using he) hb), ?_, fun heo => ?_, fun hlo q hq o' ho' hqq hb t ht j hj hbj hm => ?_⟩ (fun hlo a ha oa hoa hea => prB_ok (by rw [hlo] at h7; exact h7) a ha oa hoa hea) (chkR_ok r _ _ _ hd' (fun j => ?_) h5)
      · cases heo : eo o.op with
        | true => exact .inl rfl
        | false =>
        refine .inr fun g hg o' ho' hl' => ?_
        rw [heo] at h3
        have h3 := Nat.eq_of_beq_eq_true (show Nat.beq _ _ = true from h3)
        have : lm.testBit g = true := (hl g).2 ⟨hg, o', ho', hl'⟩
        have h6 : (lm &&& (bm.getD i 0)).testBit g = true := by rw [show lm &&& (bm.getD i 0) = lm from h3]; exact this
        rw [Nat.testBit_and, Bool.and_eq_true] at h6
        rw [← befL_eq]; unfold befL; rw [tb_eq]; exact h6.2
      · rw [heo] at h6
        have h6 : (o.guard.isNone && erB ops bm i (o.looksAt ops)) = true := h6
        rw [Bool.and_eq_true] at h6
        exact ⟨Option.isNone_iff_eq_none.1 h6.1, erB_ok h6.2⟩
      · rw [hlo] at h4
        have h4 : agB qx ops bm (Nat.lor dm (Nat.pow 2 i)) i done = true := h4
        have := agB_ok h4 q hq o' ho' hqq hb t ht j hj hbj
        rw [(hd' j).2 hm] at this; cases this
      · cases hlo : loudO qx o.op with
        | true =>
          show (Nat.lor lm (Nat.pow 2 i)).testBit j = true ↔ _
          rw [lor_bit, hl]
          constructor
          · rintro (⟨q1, q2⟩ | rfl)
            · exact ⟨List.mem_cons_of_mem _ q1, q2⟩
            · exact ⟨List.mem_cons_self .., o, ho, hlo⟩
          · rintro ⟨q1, q2⟩
            cases q1 with
            | head => exact .inr rfl
            | tail _ q1 => exact .inl ⟨q1, q2⟩
        | false =>
          show lm.testBit j = true ↔ _
          rw [hl]
          constructor
          · rintro ⟨q1, q2⟩; exact ⟨List.mem_cons_of_mem _ q1, q2⟩
          · rintro ⟨q1, o', q2, q3⟩
            cases q1 with
            | head => rw [ho] at q2; cases q2; rw [hlo] at q3; cases q3
            | tail _ q1 => exact ⟨q1, o', q2, q3⟩
theorem opsB_ok {bm : List Nat} : ∀ (l : List Oper) (i : Nat), opsB ops n bm l i = true → ∀ k o, l[k]? = some o → uqB ops (i + k) o.dst = true ∧ dOk n o.dst = true ∧ rdB ops bm (i + k) (o.looksAt ops) = true
  | [], i, h, k, o, hk => by simp at hk
  | o' :: r, i, h, k, o, hk => by
    simp only [opsB, Bool.and_eq_true] at h
    cases k with
    | zero => simp only [List.getElem?_cons_zero, Option.some.injEq] at hk; subst hk; exact ⟨h.1, h.2.1, h.2.2.1⟩
    | succ k =>
      have := opsB_ok r (i + 1) h.2.2.2 k o (by simpa using hk)
      rwa [show i + 1 + k = i + (k + 1) from by omega] at this
theorem covB_ok {ord : List Nat} : ∀ {k : Nat}, covB ord k = true → ∀ i < k, i ∈ ord
  | 0, _, i, hi => by omega
  | k + 1, h, i, hi => by
    simp only [covB, Bool.and_eq_true] at h
    by_cases hik : i = k
    · subst hik
      obtain ⟨x, hx, hb⟩ := List.any_eq_true.1 h.1
      rw [Nat.eq_of_beq_eq_true hb]; exact hx
    · exact covB_ok h.2 i (by omega)
theorem chkB_ok {ord bm : List Nat} (h : chkB qx eo ops n ord bm = true) : RegOk qx eo ops n bm.toArray ord := by
  simp only [chkB, Bool.and_eq_true] at h
  obtain ⟨h1, h2, h3, h4⟩ := h
  have hb : bm.toArray = Region.before ops := by rw [← eqNL_eq h1]
  have hall : ∀ (i : Nat) (o : Oper), ops[i]? = some o → uqB ops i o.dst = true ∧ dOk n o.dst = true ∧ rdB ops bm i (o.looksAt ops) = true := fun i o ho => by
    have := opsB_ok ops.toList 0 h2 i o (by simpa using ho)
    rwa [Nat.zero_add] at this
  refine ⟨hb, fun i j o o' t ho ho' hd hd' => ?_, fun i o t j ho ht hj => rdB_ok (hall i o ho).2.2 t ht j hj, fun i o ho => (hall i o ho).2.1, covB_ok h3, chkR_ok _ _ _ _ (fun j => by simp) (fun j => by simp) h4⟩
  have u1 := (hall i o ho).1
  have u2 := (hall j o' ho').1
  rw [hd] at u1
  rw [hd'] at u2
  have u1 : (match wrt ops t with | none => false | some k => Nat.beq k i) = true := u1
  have u2 : (match wrt ops t with | none => false | some k => Nat.beq k j) = true := u2
  cases hw : wrt ops t with
  | none => rw [hw] at u1; cases u1
  | some k =>
    rw [hw] at u1 u2
    rw [← Nat.eq_of_beq_eq_true u1, ← Nat.eq_of_beq_eq_true u2]
end
end
end Ev
namespace Ev
noncomputable section
open Go Go.Conc
section
variable {T : Tb} {P : Program} {n N : Nat} {F : Fence} {cl : Cl} {lv : Nat → Bool}

/-! ### a function of the program, and its code -/
def maskLv (m : Nat) (t : Nat) : Bool := tb m t
def regF (fl : Bool) (P : Program) (lv : Nat → Bool) (n : Nat) (ops : Array Oper) : EL := elOf fl (kD P) lv n ops [] ops.toList
def regR (P : Program) (lv : Nat → Bool) (n : Nat) (ops : Array Oper) : EL := elOf false (kC P) lv n ops [] ops.toList
/-- functions that answer one constant (and leave what nobody knows) -/
abbrev Cs := List (Nat × AV)
def csOf (f : Nat) : Cs → Option AV
  | [] => none
  | (i, v) :: r => bif Nat.beq i f then some v else csOf f r
def kX2 (k : KF) : Option AV → List Operand → KF
  | some v, [] => kK v
  | _, _ => k
def kX1 (k : KF) (cs : Cs) : Option (Nat × Array Operand) → KF
  | some (f, args) => kX2 k (csOf f cs) args.toList
  | none => k
def kX (P : Program) (cs : Cs) (oo : Operand → EO) (o : Op) : KF := kX1 (kC P oo o) cs (callOf o)
def qX2 : Option AV → List Operand → Bool
  | some _, [] => true
  | _, _ => false
def qX1 (q : Bool) (cs : Cs) : Option (Nat × Array Operand) → Bool
  | some (f, args) => qX2 (csOf f cs) args.toList
  | none => q
def qX (P : Program) (cs : Cs) (o : Op) : Bool := qX1 (quiet P o) cs (callOf o)
def CsOk (P : Program) (F : Fence) (cs : Cs) : Prop := ∀ f v, csOf f cs = some v → IsFn P f ∧ ∃ x, (∀ ρ, VR ρ v x) ∧ ∀ w, CallsIn F 0 P f #[] w (fun e w' => e = .returned x ∧ Go.RowKit.Below w.heap.size w w')
/-- messages, too -/
def kS (P : Program) (cs : Cs) (oo : Operand → EO) (o : Op) : KF :=
  match o with
  | .send c x => kSend (oo c) (oo x)
  | o => kX P cs oo o
theorem qX_ok {cs : Cs} : QxOk (qX P cs) := by
  intro o ho
  unfold qX at ho
  cases hc : callOf o with
  | none => rw [hc] at ho; exact quiet_qx o ho
  | some q =>
    obtain ⟨f, args⟩ := q
    obtain ⟨ats, rfl⟩ := callOf_inv hc
    exact ⟨rfl, fun c hc => by cases hc⟩
/-- the call of such a function -/
theorem cs_call {cs : Cs} (hF : ∀ f, F.fn f) (hdep : F.depth = none) (hcs : CsOk P F cs) {o : Oper} {f : Nat} {args : Array Operand} {v : AV} (hc : callOf o.op = some (f, args)) (hv : csOf f cs = some v) (ha : args.toList = []) {w : World} :
    ∃ x, (∀ ρ, VR ρ v x) ∧ ∀ (a : Act) (next : Act → World → Prop) (Q : Exit → Act → World → Prop), (∀ w', Go.RowKit.Below w.heap.size w w' → next (a.put o.dst x) w') → o.wpIn F 0 P a w next Q := by
  obtain ⟨hfn, x, hx, hcall⟩ := hcs f v hv
  obtain ⟨ats, hop⟩ := callOf_inv hc
  have hargs : args = #[] := by rw [← Array.toArray_toList (xs := args), ha]
  subst hargs
  refine ⟨x, hx, fun a next Q hn => ⟨about_ok hF o a w, ?_⟩⟩
  have hrun : (execOp a.eval o).run P w = .ok (.enter f #[]) w := by
    have := run_call_b (P := P) (w := w) (ro := a.eval) hop (xs := #[]) (ys := #[]) rfl hfn
    simpa using this
  rw [Oper.semAt_eq _ _ _ (fun c hc' => by rw [hc'] at hop; cases hop), hrun, Oper.uponIn_enter]
  refine ⟨fun hs => (by rw [hdep] at hs; cases hs), ?_⟩
  show CallsIn F 0 P f #[] w _
  refine (hcall w).mono (fun en w' hr => ?_)
  obtain ⟨rfl, hb⟩ := hr
  exact hn _ hb
theorem kX_ok {cs : Cs} (hF : ∀ f, F.fn f) (hdep : F.depth = none) (hcs : CsOk P F cs) (hcl : ClOk T P F cl) : KcOk T P F 0 cl (kX P cs) := by
  intro ρ h w l e a ro K oo o next Q g hr hag hy hn
  have hy : kX1 (kC P oo o.op) cs (callOf o.op) cl l e h K = .yes := hy
  have plain : kC P oo o.op cl l e h K = .yes → o.wpIn F 0 P a w next Q := fun hy => kC_ok hF hdep hcl ρ h w l e a ro K oo o next Q g hr hag hy hn
  cases hc : callOf o.op with
  | none => rw [hc] at hy; exact plain hy
  | some q =>
    obtain ⟨f, args⟩ := q
    rw [hc] at hy
    have hy : kX2 (kC P oo o.op) (csOf f cs) args.toList cl l e h K = .yes := hy
    cases hv : csOf f cs with
    | none => rw [hv] at hy; exact plain hy
    | some v =>
      cases ha : args.toList with
      | cons x r => rw [hv, ha] at hy; exact plain hy
      | nil =>
        rw [hv, ha] at hy
        obtain ⟨x, hx, hw⟩ := cs_call hF hdep hcs hc hv ha (w := w)
        exact hw a next Q (fun w' hb => hn v ρ h w' x hy (Post.below g hb) (hx ρ))
theorem kX_early {cs : Cs} : KeOk T P cl eoK (kX P cs) where
  run := fun ρ h l e ro K oo o heo hr hy => by
    have hc : callOf o.op = none := by cases hop : o.op <;> first | rfl | (rw [hop] at heo; cases heo)
    have hy : kX1 (kC P oo o.op) cs (callOf o.op) cl l e h K = .yes := hy
    rw [hc] at hy
    exact kC_early heo hr hy
  sel := fun o heo cs bb hc => by rw [hc] at heo; cases heo
  dfr := fun o heo c hc => by rw [hc] at heo; cases heo
theorem eoK_loud {cs : Cs} : ∀ o, eoK o = true → loudO (qX P cs) o = true := by
  intro o heo
  cases o <;> first | rfl | cases heo
theorem kX_qok {cs : Cs} (hF : ∀ f, F.fn f) (hdep : F.depth = none) (hcs : CsOk P F cs) : KqOk T P F 0 cl (qX P cs) (kX P cs) := by
  intro ρ h w l e ro K oo o g hr hq hy
  have hy : kX1 (kC P oo o.op) cs (callOf o.op) cl l e h K = .yes := hy
  have hq : qX1 (quiet P o.op) cs (callOf o.op) = true := hq
  cases hc : callOf o.op with
  | none => rw [hc] at hy hq; exact kC_qok (m := 0) hF ρ h w l e ro K oo o g hr hq hy
  | some q =>
    obtain ⟨f, args⟩ := q
    rw [hc] at hy hq
    have hy : kX2 (kC P oo o.op) (csOf f cs) args.toList cl l e h K = .yes := hy
    have hq : qX2 (csOf f cs) args.toList = true := hq
    cases hv : csOf f cs with
    | none => rw [hv] at hq; cases hq
    | some v =>
      cases ha : args.toList with
      | cons x r => rw [hv, ha] at hq; cases hq
      | nil =>
        rw [hv, ha] at hy
        obtain ⟨x, hx, hw⟩ := cs_call hF hdep hcs hc hv ha (w := w)
        exact ⟨v, x, hy, hx ρ, fun a next _ hn => jop_of (hw a next _ (fun w' hb => hn x w' (hx ρ) hb))⟩
theorem kS_eq {cs : Cs} {oo : Operand → EO} {o : Op} (h : ∀ c x, o ≠ .send c x) : kS P cs oo o = kX P cs oo o := by
  cases o with
  | send c x => exact absurd rfl (h c x)
  | _ => rfl
theorem kS_early {cs : Cs} : KeOk T P cl eoK (kS P cs) where
  run := fun ρ h l e ro K oo o heo hr hy => by
    rw [kS_eq (fun c x hc => by rw [hc] at heo; cases heo)] at hy
    exact kX_early.run ρ h l e ro K oo o heo hr hy
  sel := fun o heo cs bb hc => by rw [hc] at heo; cases heo
  dfr := fun o heo c hc => by rw [hc] at heo; cases heo
theorem kS_qok {cs : Cs} (hF : ∀ f, F.fn f) (hdep : F.depth = none) (hcs : CsOk P F cs) : KqOk T P F 0 cl (qX P cs) (kS P cs) := by
  intro ρ h w l e ro K oo o g hr hq hy
  rw [kS_eq (fun c x hc => by rw [hc] at hq; cases hq)] at hy
  exact kX_qok hF hdep hcs ρ h w l e ro K oo o g hr hq hy
theorem kS_ok {cs : Cs} (hF : ∀ f, F.fn f) (hdep : F.depth = none) (hro : F.round = none) (hcs : CsOk P F cs) (hcl : ClOk T P F cl) : KmOk T P F 0 cl (kS P cs) := by
  intro ρ h w l e a a' K oo o next g hr hae hy hn
  by_cases hs : ∃ c x, o.op = .send c x
  · obtain ⟨c, x, hop⟩ := hs
    rw [hop] at hy
    have hy : vSend h K (rd l e (oo x)) (rd l e (oo c)) = .yes := hy
    have hx : VR ρ (rd l e (oo x)) (a.eval x) := by rw [hae x (by rw [hop]; simp [Op.operands])]; exact hr x
    have hc : VR ρ (rd l e (oo c)) (a.eval c) := by rw [hae c (by rw [hop]; simp [Op.operands])]; exact hr c
    unfold vSend at hy
    split at hy
    · rename_i p hp
      rw [hp] at hc
      generalize hcv : a.eval c = cv at hc
      cases hc with
      | @ch _ lc hl =>
      unfold vSendB at hy
      split at hy
      · rename_i cap b s r he
        obtain ⟨h1, hy⟩ := bf_yes' hy
        obtain ⟨lc', arr, hl', ho, ha, hw⟩ := chan_at g he
        rw [hl] at hl'; cases hl'
        have hsz : arr.size = b.exp.length := by have := ha.length; simpa using this.symm
        have h1 : b.len + 1 ≤ cap := by simpa using h1
        rw [exp_len] at h1
        have hAL : AL ρ (CL.app (.c (rd l e (oo x)) .nil) b).exp (arr.push (a.eval x)).toList := by
          rw [exp_app hw]
          simp only [Array.toList_push]
          exact ha.append (.cons hx .nil)
        have hp := Post.put (n := w.drawn) g (live_of he (by simp)) hl (BR.chan (cap := cap) (s := s + 1) (r := r) hAL (wf_app (c := b) (s := .c (rd l e (oo x)) .nil) trivial hw))
        exact jop_comm hro (about_ok hF o a w) (v := undef) (w2 := w.setChan lc.blk cap (arr.push (a.eval x)) false (s + 1) r false)
          (by unfold execOp; rw [hop]; rfl) (fun fr cs es hg => step_lone_send_room (c := lc.blk) (z' := .tuple #[]) (v := a.eval x) (by rw [hg, hcv]; rfl) ho (by omega)) (hn _ ρ _ _ _ hy hp (.un _))
      · exact no_yes hy
    · exact no_yes hy
  · rw [kS_eq (fun c x hc => hs ⟨c, x, hc⟩)] at hy
    exact km_of (kX_ok hF hdep hcs hcl) ρ h w l e a a' K oo o next g hr hae hy hn
abbrev Ods := List (Nat × List Nat × List Nat)
def odOf (id : Nat) : Ods → Option (List Nat × List Nat)
  | [] => none
  | (i, q) :: r => bif Nat.beq i id then some q else odOf id r
def dregF (P : Program) (cs : Cs) (kd : (Operand → EO) → Op → KF) (lv : Nat → Bool) (n : Nat) (ods : Ods) (id : Nat) (ops : Array Oper) : EL :=
  match odOf id ods with
  | some (ord, bm) => bif chkB (qX P cs) eoK ops n ord bm then dlOf (qX P cs) eoK kd lv ops bm.toArray [] [] ord else .s kBad .nil
  | none => .s kBad .nil
theorem c_badreg {D : Rho → Df → List Deferred → Prop} (c : Code) : COk T P F 0 lv n N cl D c (.dreg (.s kBad .nil)) := fun X K e d h w ρ a Q hy => no_yes hy
theorem c_dregF {fl : Bool} {cs : Cs} {kd : (Operand → EO) → Op → KF} (hkq : KqOk T P F 0 cl (qX P cs) kd) (hke : KeOk T P cl eoK kd) (hkm : KmOk T P F 0 cl kd) (hm : P.follows .mixedOrders = true) (hF : ∀ f, F.fn f) {ods : Ods} (id : Nat) (ops : Array Oper) : COk T P F 0 lv n N cl (DOf fl) (.region id ops true) (.dreg (dregF P cs kd lv n ods id ops)) := by
  unfold dregF
  split
  · rename_i ord bm _
    cases hc : chkB (qX P cs) eoK ops n ord bm with
    | false => exact c_badreg _
    | true => exact c_dregion eoK_loud qX_ok hm hF hkq hke hkm (chkB_ok hc)
  · exact c_badreg _
def ecF (P : Program) (cs : Cs) (fl : Bool) (lv : Nat → Bool) (n : Nat) (ods : Ods) (rf : Operand → Array Tmp → Code → Code → EC) (c : Code) : EC := ecOf (regF fl P lv n) (dregF P cs (kS P cs) lv n ods) rf c
def ecR (P : Program) (cs : Cs) (lv : Nat → Bool) (n : Nat) (ods : Ods) (c : Code) : EC := ecOf (regR P lv n) (dregF P cs (kX P cs) lv n ods) (fun _ _ _ _ => .bad) c
theorem ecF_ok {fl : Bool} {cs : Cs} (hcs : CsOk P F cs) (hm : P.follows .mixedOrders = true) (hF : ∀ f, F.fn f) (hdep : F.depth = none) (hro : F.round = none) (hcl : ClOk T P F cl) {ods : Ods} {rf : Operand → Array Tmp → Code → Code → EC} {c : Code}
    (h3 : ∀ q ∈ rfsOf c, COk T P F 0 lv n N cl (DOf fl) (.rangeFunc q.1 q.2.1 q.2.2.1 q.2.2.2) (rf q.1 q.2.1 q.2.2.1 q.2.2.2)) : COk T P F 0 lv n N cl (DOf fl) c (ecF P cs fl lv n ods rf c) :=
  ecOf_ok (fun id ops => c_region hF (fun _ => hro) (kD_ok hF hdep hro hcl)) (fun id ops => c_dregF (kS_qok hF hdep hcs) kS_early (kS_ok hF hdep hro hcs hcl) hm hF id ops) c h3
theorem kjC (hF : ∀ f, F.fn f) (hdep : F.depth = none) (hcl : ClOk T P F cl) : KjOk T P F 0 cl (kC P) := by
  intro ρ h w l e a K oo o next g hr hy hn
  exact jop_of (kC_ok hF hdep hcl ρ h w l e a a.eval K oo o next _ g hr (fun _ _ => rfl) hy hn)
theorem ecR_ok {cs : Cs} (hcs : CsOk P F cs) (hm : P.follows .mixedOrders = true) (hF : ∀ f, F.fn f) (hdep : F.depth = none) (hcl : ClOk T P F cl) {ods : Ods} (c : Code) : COk T P F 0 lv n N cl (DOf false) c (ecR P cs lv n ods c) :=
  ecOf_ok (fun id ops => c_region hF (fun h => by cases h) (kjC hF hdep hcl)) (fun id ops => c_dregF (kX_qok hF hdep hcs) kX_early (km_of (kX_ok hF hdep hcs hcl)) hm hF id ops) c (fun q _ => c_bad _)
def bodyOf (fn : Func) : Code := match fn.body with
  | some c => c
  | none => .skip
def fnB (fn : Func) (m np : Nat) : Bool := fn.body.isSome && (Nat.ble np fn.ntmps && Nat.beq (Nat.land m (Nat.sub (Nat.pow 2 np) 1)) (Nat.sub (Nat.pow 2 np) 1))
theorem mask_low {m np : Nat} (h : Nat.beq (Nat.land m (Nat.sub (Nat.pow 2 np) 1)) (Nat.sub (Nat.pow 2 np) 1) = true) : ∀ t, maskLv m t = false → np ≤ t := by
  intro t ht
  rcases Nat.lt_or_ge t np with hlt | hge
  · have h1 : m &&& (2 ^ np - 1) = 2 ^ np - 1 := Nat.eq_of_beq_eq_true h
    have h2 : (m &&& (2 ^ np - 1)).testBit t = true := by rw [h1, Nat.testBit_two_pow_sub_one]; simpa using hlt
    rw [Nat.testBit_and, Bool.and_eq_true] at h2
    unfold maskLv at ht
    rw [tb_eq, h2.1] at ht; cases ht
  · exact hge
theorem codeAt {f : Nat} {fn : Func} {df : Bool} {np m : Nat} {res : List (Ps × Option (Nat × Bool))} (hcall : IsFn P f) (hf : P.funcs[f]? = some fn) (hB : fnB fn m np = true) (hres : rvsOf P fn.results.toList = some res) : CodeAt T P F df np res f fn (bodyOf fn) (maskLv m) := by
  simp only [fnB, Bool.and_eq_true] at hB
  obtain ⟨h1, h2, h3⟩ := hB
  refine ⟨hf, hcall, ?_, hres, Nat.le_of_ble_eq_true h2, mask_low h3⟩
  unfold bodyOf
  cases hb : fn.body with
  | none => rw [hb] at h1; cases h1
  | some c => rfl
/-- A FUNCTION -/
theorem ef_code {cs : Cs} (hcs : CsOk P F cs) (hm : P.follows .mixedOrders = true) (hF : ∀ f, F.fn f) (hdep : F.depth = none) (hro : F.round = none) {f : Nat} {fn : Func} {df : Bool} {np m : Nat} {ods : Ods} {res : List (Ps × Option (Nat × Bool))} {body : EC}
    (hcall : IsFn P f) (hf : P.funcs[f]? = some fn) (hB : fnB fn m np = true) (hres : rvsOf P fn.results.toList = some res) (hec : ecF P cs df (maskLv m) fn.ntmps ods (fun _ _ _ _ => .bad) (bodyOf fn) = body) : EFOk T P F f (.code df np res body) := by
  refine ⟨fn, bodyOf fn, maskLv m, codeAt hcall hf hB hres, fun N cl hcl => ?_⟩
  rw [← hec]
  exact ecF_ok hcs hm hF hdep hro hcl (fun q _ => c_bad _)
theorem ef_join {cs : Cs} (hcs : CsOk P F cs) (hm : P.follows .mixedOrders = true) (hF : ∀ f, F.fn f) (hdep : F.depth = none) (hro : F.round = none) {f : Nat} {fn : Func} {np m : Nat} {ods : Ods} {res : List (Ps × Option (Nat × Bool))} {b1 body : EC}
    (hcall : IsFn P f) (hf : P.funcs[f]? = some fn) (hB : fnB fn m np = true) (hres : rvsOf P fn.results.toList = some res) (hec : ecF P cs false (maskLv m) fn.ntmps ods (fun _ _ _ _ => .bad) (bodyOf fn) = body) : EFOk T P F f (.join np res b1 body) := by
  refine ⟨fn, bodyOf fn, maskLv m, codeAt hcall hf hB hres, fun N cl hcl => ?_⟩
  rw [← hec]
  exact ecF_ok hcs hm hF hdep hro hcl (fun q _ => c_bad _)
/-! one that holds one range over a function -/
def rfQ (fn : Func) : Operand × Array Tmp × Code × Code := match rfsOf (bodyOf fn) with
  | q :: _ => q
  | [] => (.const (.bool false), #[], .skip, .skip)
def psB (lv : Nat → Bool) (n : Nat) : List Tmp → Bool
  | [] => true
  | p :: r => Nat.ble p 1000000 && (Nat.blt p n && (lv p && psB lv n r))
theorem psB_ok : ∀ {l : List Tmp}, psB lv n l = true → PsOk lv n l (l.map Ps.of)
  | [], _ => .nil
  | p :: r, h => by
    simp only [psB, Bool.and_eq_true, Nat.blt_eq] at h
    have hp : ∀ x : Nat, Nat.ble x 1000000 = true → x ≤ 1000000 := fun x hx => Nat.le_of_ble_eq_true hx
    exact .cons (hp p h.1) h.2.1 h.2.2.1 (psB_ok h.2.2.2)
theorem ef_rf {cs : Cs} (hcs : CsOk P F cs) {RT : Nat → Nat → Option RE} (hT : T.ofL = tbL RT) (hm : P.follows .mixedOrders = true) (hF : ∀ f, F.fn f) (hdep : F.depth = none) (hro : F.round = none) {f : Nat} {fn : Func} {np m i j : Nat} {ods : Ods} {res : List (Ps × Option (Nat × Bool))} {body : EC}
    (hcall : IsFn P f) (hf : P.funcs[f]? = some fn) (hB : fnB fn m np = true) (hres : rvsOf P fn.results.toList = some res) (hq : rfsOf (bodyOf fn) = [rfQ fn]) (hps : psB (maskLv m) fn.ntmps (rfQ fn).2.1.toList = true)
    (hRT : RT i j = some ⟨(rfQ fn).2.2.1, (rfQ fn).2.2.2, maskLv m, fn.ntmps⟩)
    (hec : ecF P cs true (maskLv m) fn.ntmps ods (fun f ps _ _ => .rf (ooOf [] f) (ps.toList.map Ps.of) i j) (bodyOf fn) = body) : EFOk T P F f (.code true np res body) := by
  refine ⟨fn, bodyOf fn, maskLv m, codeAt hcall hf hB hres, fun N cl hcl => ?_⟩
  rw [← hec]
  refine ecF_ok hcs hm hF hdep hro hcl (fun q hq' => ?_)
  rw [hq] at hq'
  have : q = rfQ fn := by simpa using hq'
  subst this
  exact c_rf hT hF hdep hro hcl hRT rfl rfl rfl rfl (psB_ok hps)
end
end
end Ev
namespace Ev
noncomputable section
open Go Go.Conc
section
variable {T : Tb} {P : Program} {F : Fence} {cl : Cl} {ρ σ : Rho} {h h0 : HP} {w w0 : World}

/-! ### a run in parts: what a call comes to, from one memory on, as a law of its own -/
def dead? : AB → Bool
  | .dead => true
  | _ => false
/-- what is left of a memory -/
def trSub : Tr AB → Tr AB → Bool
  | .e, _ => true
  | .n v l r, .n u m s => bf (bf (dead? v) true (AB.same v u)) (bf (trSub l m) (trSub r s) false) false
  | .n _ _ _, .e => false
def HP.sub (s h : HP) : Bool := bf (Ps.eqN s.nx h.nx) (trSub s.t h.t) false
theorem dead?_eq {b : AB} (h : dead? b = true) : b = .dead := by cases b <;> first | rfl | cases h
theorem sub_get : ∀ {s t : Tr AB}, trSub s t = true → ∀ p : Ps, Tr.get AB.dead p s = .dead ∨ Tr.get AB.dead p s = Tr.get AB.dead p t
  | .e, t, _, p => .inl (by cases p <;> rfl)
  | .n v l r, .e, h, p => by cases h
  | .n v l r, .n u m s, h, p => by
    have h : bf (bf (dead? v) true (AB.same v u)) (bf (trSub l m) (trSub r s) false) false = true := h
    obtain ⟨h1, h2⟩ := bft h
    obtain ⟨h2, h3⟩ := bft h2
    cases p with
    | h =>
      show v = .dead ∨ v = u
      cases hd : dead? v with
      | true => exact .inl (dead?_eq hd)
      | false => rw [hd] at h1; exact .inr (AB.same_eq v u h1)
    | o p => exact sub_get h2 p
    | i p => exact sub_get h3 p
theorem HP.sub_spec {s h : HP} (e : HP.sub s h = true) : s.nx = h.nx ∧ ∀ p, s.get p = .dead ∨ s.get p = h.get p := by
  obtain ⟨h1, h2⟩ := bft (a := Ps.eqN s.nx h.nx) e
  exact ⟨eqN_eq h1, fun p => sub_get h2 p⟩
theorem Post.sub {s : HP} (hp : Post T ρ h0 w0 σ h w) (e : HP.sub s h = true) : Post T ρ h0 w0 σ s w := by
  obtain ⟨hn, hg⟩ := HP.sub_spec e
  have hl : ∀ i, s.live i → h.live i ∧ s.get i = h.get i := fun i hi => by
    rcases hg i with hd | hd
    · exact absurd hd hi
    · exact ⟨by unfold HP.live at *; rwa [hd] at hi, hd⟩
  refine ⟨hp.le, ⟨fun i hi => ?_, fun i j l k hi hj => hp.good.inj i j l k (hl i hi).1 (hl j hj).1, fun i l e => by rw [hn]; exact hp.good.dom i l e⟩, by rw [hn]; exact hp.nx, hp.old, hp.size, hp.far, fun i l hi e => hp.come i l (hl i hi).1 e, hp.os, hp.tape, hp.out⟩
  obtain ⟨l, o, h1, h2, h3⟩ := hp.good.blk i (hl i hi).1
  exact ⟨l, o, h1, h2, by rw [(hl i hi).2]; exact h3⟩
/-- a part: the arguments, the memory ahead; the answer, the memory behind -/
structure Part where
  c : CV
  h : HP
  v : AV
  k : HP
def prPart (g : CV → HP → Kv → R) (p : Part) : CV → HP → Kv → R := fun c h K => bf (bf (CL.same c p.c) (HP.same h p.h) false) (K p.v p.k) (g c h K)
def partK (p : Part) : Kv := fun v h => R.of (bf (AV.same v p.v) (HP.sub p.k h) false)
theorem part_ok' {g : CV → HP → Kv → R} {f : Ps} {p : Part} (hg : PrimOk T P F g f.idx) (hcl : ClOk T P F cl) (hp : R.is (cl (.f f) p.c p.h (partK p)) = true) : PrimOk T P F (prPart g p) f.idx := by
  intro ρ h w c K vals hy0 gd ha hw
  have hy : bf (bf (CL.same c p.c) (HP.same h p.h) false) (K p.v p.k) (g c h K) = .yes := hy0
  clear hy0
  rw [bf_if] at hy
  split at hy
  · rename_i hc
    obtain ⟨h1, h2⟩ := bft hc
    have h1 := CL.same_eq _ _ h1
    have h2 := HP.same_eq h2
    subst h1; subst h2
    obtain ⟨q1, q2⟩ := hcl.f ρ _ w f _ _ vals (is_yes hp) gd ha hw
    refine ⟨q1, q2.mono fun en w' hr => ?_⟩
    obtain ⟨v, σ, h', x, rfl, r1, r2, r3⟩ := hr
    have r1 : R.of (bf (AV.same v p.v) (HP.sub p.k h') false) = .yes := r1
    have r1 : bf (AV.same v p.v) (HP.sub p.k h') false = true := by
      cases hb : bf (AV.same v p.v) (HP.sub p.k h') false with
      | true => rfl
      | false => rw [hb] at r1; cases r1
    obtain ⟨r1, r4⟩ := bft r1
    have r1 := AV.same_eq _ _ r1
    subst r1
    exact ⟨_, σ, p.k, x, rfl, hy, r2.sub r4, r3⟩
  · exact hg ρ h w c K vals hy gd ha hw
theorem prim_no {f : Nat} : PrimOk T P F (fun _ _ _ => R.no) f := fun ρ h w c K vals hy => no_yes hy
end
end
end Ev
