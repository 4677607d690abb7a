/- What laws of their own compute; the table of functions. -/
import Derived.Test.YtcciodpchdijgaaGreatEDS
import Derived.Test.YtcciodpchdijgaaGreatEP
import Derived.Lib.Bytealg
set_option linter.constructorNameAsVariable false
set_option linter.unusedVariables false
set_option linter.unusedSimpArgs false
namespace Ev
noncomputable section
open Go Go.Conc
/-! ### what laws of one's own compute -/
def bsOf (n d : Nat) : List UInt8 := (List.range n).map fun i => UInt8.ofNat (byt d i)
theorem bsOf_length (n d : Nat) : (bsOf n d).length = n := by simp [bsOf]
theorem compareBytes_less : ∀ x y : List UInt8, Lib.compareBytes x y = if Op.bytesLess x y then -1 else if Op.bytesLess y x then 1 else 0
  | [], [] => by simp [Lib.compareBytes, Op.bytesLess]
  | [], _ :: _ => by simp [Lib.compareBytes, Op.bytesLess]
  | _ :: _, [] => by simp [Lib.compareBytes, Op.bytesLess]
  | a :: x, b :: y => by
    have ih := compareBytes_less x y
    rw [Lib.compareBytes]
    by_cases h1 : a < b
    · simp [h1, Op.bytesLess]
    · by_cases h2 : b < a
      · have hne : ¬ a = b := fun e => by subst e; exact h1 h2
        simp [h1, h2, hne, Op.bytesLess]
      · have he : a = b := UInt8.le_antisymm (UInt8.not_lt.1 h2) (UInt8.not_lt.1 h1)
        subst he
        simp [h1, ih, Op.bytesLess]
theorem cmpN_eq (n a m b : Nat) : cmpN n a m b = Lib.compareBytes (bsOf n a) (bsOf m b) := by
  rw [compareBytes_less]
  unfold cmpN bsOf
  rw [lst_lt, lst_lt]
  cases Op.bytesLess ((List.range n).map fun i => UInt8.ofNat (byt a i)) ((List.range m).map fun i => UInt8.ofNat (byt b i)) <;>
    cases Op.bytesLess ((List.range m).map fun i => UInt8.ofNat (byt b i)) ((List.range n).map fun i => UInt8.ofNat (byt a i)) <;> rfl
/-! the sum of a text -/
theorem crcStep_xor (a b : Nat) : crcStep (a ^^^ b) = crcStep a ^^^ crcStep b := by
  show ((a ^^^ b) / 2) ^^^ (0x82F63B78 * ((a ^^^ b) % 2)) = ((a / 2) ^^^ (0x82F63B78 * (a % 2))) ^^^ ((b / 2) ^^^ (0x82F63B78 * (b % 2)))
  have h1 : (a ^^^ b) / 2 = a / 2 ^^^ b / 2 := by
    have := Nat.shiftRight_xor_distrib (a := a) (b := b) (i := 1)
    simpa [Nat.shiftRight_eq_div_pow] using this
  have h2 : 0x82F63B78 * ((a ^^^ b) % 2) = (0x82F63B78 * (a % 2)) ^^^ (0x82F63B78 * (b % 2)) := by
    have e : (a ^^^ b) % 2 = (a % 2) ^^^ (b % 2) := by
      have := Nat.xor_mod_two_pow (a := a) (b := b) (n := 1)
      simpa using this
    rw [e]
    rcases Nat.mod_two_eq_zero_or_one a with ha | ha <;> rcases Nat.mod_two_eq_zero_or_one b with hb | hb <;> rw [ha, hb] <;> simp
  rw [h1, h2]
  ac_rfl
theorem crcStep_even (k : Nat) : crcStep (2 * k) = k := by
  show ((2 * k) / 2) ^^^ (0x82F63B78 * ((2 * k) % 2)) = k
  rw [Nat.mul_div_cancel_left _ (by omega), Nat.mul_mod_right]
  simp
theorem crcByte_xor (a b : Nat) : crcByte (a ^^^ b) = crcByte a ^^^ crcByte b := by
  unfold crcByte
  simp only [crcStep_xor]
theorem crcByte_high (k : Nat) : crcByte (256 * k) = k := by
  unfold crcByte
  rw [show 256 * k = 2 * (2 * (2 * (2 * (2 * (2 * (2 * (2 * k))))))) by omega]
  simp only [crcStep_even]
theorem xor_split (c x : Nat) (hx : x < 256) : c ^^^ x = ((c % 256) ^^^ x) ^^^ (256 * (c / 256)) := by
  have h : c = (c % 256) ^^^ (256 * (c / 256)) := by
    apply Nat.eq_of_testBit_eq
    intro i
    rw [Nat.testBit_xor, show (256 : Nat) = 2 ^ 8 from rfl, Nat.testBit_mod_two_pow, Nat.testBit_two_pow_mul, Nat.testBit_div_two_pow]
    by_cases hi : i < 8
    · have : ¬ 8 ≤ i := by omega
      simp [hi, this]
    · have h8 : 8 ≤ i := by omega
      simp [hi, h8]
  conv => lhs; rw [h]
  ac_rfl
def crcB (c x : Nat) : Nat := Nat.xor (crcByte (Nat.xor (Nat.mod c 256) x)) (Nat.div c 256)
theorem crcByte_tab (c x : Nat) (hx : x < 256) : crcByte (Nat.xor c x) = crcB c x := by
  show crcByte (c ^^^ x) = crcByte ((c % 256) ^^^ x) ^^^ (c / 256)
  rw [xor_split c x hx, crcByte_xor, crcByte_high]
theorem bsOf_succ (n d : Nat) : bsOf (n + 1) d = UInt8.ofNat (Nat.mod d 256) :: bsOf n (Nat.div d 256) := by
  unfold bsOf
  rw [List.range_succ_eq_map, List.map_cons, List.map_map]
  congr 1
  · show UInt8.ofNat (byt d 0) = UInt8.ofNat (d % 256)
    congr 1
    simp [byt]
  · apply List.map_congr_left
    intro i _
    show UInt8.ofNat (byt d (i + 1)) = UInt8.ofNat (byt (d / 256) i)
    congr 1
    unfold byt
    rw [Nat.pow_succ, Nat.mul_comm, ← Nat.div_div_eq_div_mul]
theorem crcGo_eq : ∀ (n c d : Nat), crcGo n c d = (bsOf n d).foldl (fun c x => crcB c x.toNat) c
  | 0, c, d => rfl
  | n + 1, c, d => by
    rw [bsOf_succ, List.foldl_cons, show crcGo (n + 1) c d = crcGo n (crcByte (Nat.xor c (Nat.mod d 256))) (Nat.div d 256) from rfl, crcGo_eq n]
    have h : (UInt8.ofNat (Nat.mod d 256)).toNat = Nat.mod d 256 := by
      have : d % 256 < 256 := Nat.mod_lt _ (by omega)
      show (UInt8.ofNat (d % 256)).toNat = d % 256
      simp [UInt8.toNat_ofNat']
    have hlt : Nat.mod d 256 < 256 := Nat.mod_lt _ (by omega)
    rw [h, crcByte_tab c _ hlt]
end
end Ev
namespace Ev
noncomputable section
open Go Go.Conc Go.RowKit
section
variable {T : Tb} {P : Program} {F : Fence} {cl : Cl}
/-! ### the table of functions -/
theorem mkTr_get {α : Type} {d : α} : ∀ (l : List α) (q : Ps) (t : Tr α) (p : Ps), Tr.get d p (mkTr d l q t) = if p.num < q.num then Tr.get d p t else (l[p.num - q.num]?).getD (Tr.get d p t)
  | [], q, t, p => by
    show Tr.get d p t = _
    split
    · rfl
    · simp
  | x :: l, q, t, p => by
    show Tr.get d p (mkTr d l q.succ (Tr.set d x q t)) = _
    rw [mkTr_get l, get_set, Ps.num_succ]
    by_cases h1 : p.num < q.num
    · have h2 : p ≠ q := fun e => by subst e; omega
      rw [if_pos (by omega), if_pos h1, if_neg h2]
    · by_cases h2 : p = q
      · subst h2
        rw [if_pos (by omega), if_neg h1]
        simp
      · have h3 : p.num ≠ q.num := fun e => h2 (Ps.num_inj e)
        rw [if_neg (by omega), if_neg h1, if_neg h2, show p.num - q.num = (p.num - (q.num + 1)) + 1 by omega]
        simp
def Fs (T : Tb) (P : Program) (F : Fence) : Nat → List EF → Prop
  | _, [] => True
  | n, e :: r => EFOk T P F n e ∧ Fs T P F (n + 1) r
theorem fs_none {n : Nat} {r : List EF} (h : Fs T P F (n + 1) r) : Fs T P F n (EF.none :: r) := ⟨trivial, h⟩
theorem fs_n (n : Nat) {r : List EF} (h : Fs T P F (n + 1) r) : Fs T P F n (EF.none :: r) := ⟨trivial, h⟩
theorem fs_c (n : Nat) {e : EF} {r : List EF} (h1 : EFOk T P F n e) (h : Fs T P F (n + 1) r) : Fs T P F n (e :: r) := ⟨h1, h⟩
def rtAt (i j : Nat) : List (Nat × Nat × RE) → Option RE
  | [] => none
  | (a, b, r) :: l => if a = i ∧ b = j then some r else rtAt i j l
theorem rtAt_mem {i j : Nat} {r : RE} : ∀ {l : List (Nat × Nat × RE)}, rtAt i j l = some r → (i, j, r) ∈ l
  | (a, b, q) :: l, h => by
    unfold rtAt at h
    split at h
    · rename_i e
      obtain ⟨rfl, rfl⟩ := e
      cases h
      exact List.mem_cons_self
    · exact List.mem_cons_of_mem _ (rtAt_mem h)
theorem fs_at : ∀ (l : List EF) (n i : Nat), Fs T P F n l → EFOk T P F (n + i) ((l[i]?).getD .none)
  | [], n, i, _ => by simp; trivial
  | e :: r, n, 0, h => by simpa using h.1
  | e :: r, n, i + 1, h => by
    have := fs_at r (n + 1) i h.2
    simpa [Nat.add_assoc, Nat.add_comm 1 i] using this
theorem fs_ok {l : List EF} (h : Fs T P F 0 l) (p : Ps) : EFOk T P F p.idx (Tr.get .none p (mkTr .none l .h .e)) := by
  rw [mkTr_get]
  have hp := Ps.num_pos p
  have h1 : Ps.num .h = 1 := rfl
  rw [h1, if_neg (by omega)]
  have h2 : Tr.get EF.none p Tr.e = EF.none := by cases p <;> rfl
  rw [h2]
  have := fs_at l 0 (p.num - 1) h
  simpa [Ps.idx] using this
theorem fs_set {t : Tr EF} {g : CV → HP → Kv → R} {f : Ps} (h : ∀ p : Ps, EFOk T P F p.idx (Tr.get .none p t)) (hg : PrimOk T P F g f.idx) (p : Ps) : EFOk T P F p.idx (Tr.get .none p (Tr.set .none (.pr g) f t)) := by
  rw [get_set]
  split
  · rename_i e; subst e; exact hg
  · exact h p
/-! ### a run that begins with nothing -/
def isTrue : AV → Bool
  | .bo b => b
  | _ => false
def ρ0 : Rho := fun _ => none
theorem get_e0 (i : Ps) : HP.get ⟨.e, .h⟩ i = .dead := by cases i <;> rfl
theorem good0 (w : World) : Good T ρ0 ⟨.e, .h⟩ w := ⟨fun i hi => absurd (get_e0 i) hi, fun i j l k hi => absurd (get_e0 i) hi, fun i l e => by cases e⟩
theorem Post.below0 {σ : Rho} {k : HP} {w v : World} (hp : Post T ρ0 ⟨.e, .h⟩ w σ k v) : Below w.heap.size w v :=
  ⟨hp.os, hp.tape, hp.out, hp.size, fun r hr => hp.far r hr (fun i l hi => absurd (get_e0 i) hi)⟩
theorem run_true (hcl : ClOk T P Fence.wide cl) {f : Ps} (hp : R.is (cl (.f f) .nil ⟨.e, .h⟩ (fun v _ => R.of (isTrue v))) = true) (w : World) :
    Calls P f.idx #[] w fun e w' => e = .returned (.bool true) ∧ Below w.heap.size w w' := by
  obtain ⟨_, h⟩ := hcl.f ρ0 ⟨.e, .h⟩ w f .nil _ #[] (is_yes hp) (good0 w) .nil trivial
  refine (callsIn_wide.1 h).mono ?_
  rintro e w' ⟨v, σ, h', x, rfl, h1, h2, h3⟩
  have h1 : R.of (isTrue v) = .yes := h1
  refine ⟨?_, h2.below0⟩
  have h4 : isTrue v = true := by
    cases hb : isTrue v with
    | true => rfl
    | false => rw [hb] at h1; cases h1
  clear h1
  cases h3 <;> first | (cases h4; done) | skip
  rename_i b
  cases b
  · cases h4
  · rfl
/-- a call of which all that is looked at is known -/
theorem run_val (hcl : ClOk T P Fence.wide cl) {f : Ps} {c : CV} {a : AV} {vals : Array Value} (hp : R.is (cl (.f f) c ⟨.e, .h⟩ (fun v _ => R.of (AV.same v a))) = true) (ha : AL ρ0 c.exp vals.toList) (hw : c.wf) (w : World) :
    Calls P f.idx vals w fun e w' => (∃ σ x, e = .returned x ∧ VR σ a x) ∧ Below w.heap.size w w' := by
  obtain ⟨_, h⟩ := hcl.f ρ0 ⟨.e, .h⟩ w f c _ vals (is_yes hp) (good0 w) ha hw
  refine (callsIn_wide.1 h).mono ?_
  rintro e w' ⟨v, σ, h', x, rfl, h1, h2, h3⟩
  have h1 : R.of (AV.same v a) = .yes := h1
  have h4 : AV.same v a = true := by
    cases hb : AV.same v a with
    | true => rfl
    | false => rw [hb] at h1; cases h1
  have h4 := AV.same_eq _ _ h4
  subst h4
  exact ⟨⟨σ, x, rfl, h3⟩, h2.below0⟩
/-! .. where an argument points to what nobody looks at -/
def ρ1 (g : Nat) : Rho := fun p => match p with | .h => some ⟨g, 0, 0⟩ | _ => none
theorem get_e1 (i : Ps) : HP.get ⟨.e, .o .h⟩ i = .dead := by cases i <;> rfl
theorem good1 (g : Nat) (w : World) : Good T (ρ1 g) ⟨.e, .o .h⟩ w := ⟨fun i hi => absurd (get_e1 i) hi, fun i j l k hi => absurd (get_e1 i) hi, fun i l e => by
  cases i with
  | h => decide
  | o p => cases e
  | i p => cases e⟩
theorem run_valP (hcl : ClOk T P Fence.wide cl) (g : Nat) {f : Ps} {c : CV} {a : AV} {vals : Array Value} (hp : R.is (cl (.f f) c ⟨.e, .o .h⟩ (fun v _ => R.of (AV.same v a))) = true) (ha : AL (ρ1 g) c.exp vals.toList) (hw : c.wf) (w : World) :
    Calls P f.idx vals w fun e w' => (∃ σ x, e = .returned x ∧ VR σ a x) ∧ Below w.heap.size w w' := by
  obtain ⟨_, h⟩ := hcl.f (ρ1 g) ⟨.e, .o .h⟩ w f c _ vals (is_yes hp) (good1 g w) ha hw
  refine (callsIn_wide.1 h).mono ?_
  rintro e w' ⟨v, σ, h', x, rfl, h1, h2, h3⟩
  have h1 : R.of (AV.same v a) = .yes := h1
  have h4 : AV.same v a = true := by
    cases hb : AV.same v a with
    | true => rfl
    | false => rw [hb] at h1; cases h1
  have h4 := AV.same_eq _ _ h4
  subst h4
  exact ⟨⟨σ, x, rfl, h3⟩, h2.os, h2.tape, h2.out, h2.size, fun r hr => h2.far r hr (fun i l hi => absurd (get_e1 i) hi)⟩
/-! plain values -/
def plV : AV → Option Value
  | .nt k n => some (.int k n) | .bo b => some (.bool b) | .sn => some (.slice none 0 0) | .pn => some (.pointer none) | _ => none
theorem plV_ok {σ : Rho} {v : AV} {x y : Value} (h : VR σ v x) (e : plV v = some y) : x = y := by
  cases h <;> first | (cases e; rfl) | cases e
theorem plL_ok {σ : Rho} : ∀ {l : List AV} {xs ys : List Value}, AL σ l xs → l.map plV = ys.map some → xs = ys
  | [], xs, ys, h, e => by
    cases h
    cases ys with
    | nil => rfl
    | cons _ _ => cases e
  | v :: l, xs, ys, h, e => by
    cases h with
    | cons h1 t1 =>
      cases ys with
      | nil => cases e
      | cons y ys =>
        simp only [List.map_cons, List.cons.injEq] at e
        rw [plV_ok h1 e.1, plL_ok t1 e.2]
end
end
end Ev
