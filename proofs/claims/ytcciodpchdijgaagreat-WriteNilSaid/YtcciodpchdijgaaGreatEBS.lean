/- The evaluator says the truth: part B -/
import Derived.Test.YtcciodpchdijgaaGreatEA
import Derived.Calls
import Derived.Below
import Derived.Laws.Sem
import Derived.Laws.Cells
import Derived.Laws.Entries
import Derived.Laws.Strings
import Derived.Laws.StructEq
import Derived.Laws.BytesString
set_option linter.constructorNameAsVariable false
set_option linter.unusedVariables false
set_option linter.unusedSimpArgs false
namespace Ev
noncomputable section
open Go

@[simp] theorem bf_true {α : Type} (x y : α) : bf true x y = x := rfl
@[simp] theorem bf_false {α : Type} (x y : α) : bf false x y = y := rfl
theorem bf_if {α : Type} (b : Bool) (x y : α) : bf b x y = if b = true then x else y := by cases b <;> rfl

/-! ### tries -/
section
variable {α : Type} {d x : α}
theorem get_e (p : Ps) : Tr.get d p (.e : Tr α) = d := by cases p <;> rfl
theorem set_o' (p : Ps) (v : α) (l r : Tr α) : Tr.set d x (.o p) (.n v l r) = Tr.rec (motive := fun _ => Tr α) .e (fun a b c _ _ => .n v (.n a b c) r) (Tr.set d x p l) := rfl
theorem set_i' (p : Ps) (v : α) (l r : Tr α) : Tr.set d x (.i p) (.n v l r) = Tr.rec (motive := fun _ => Tr α) .e (fun a b c _ _ => .n v l (.n a b c)) (Tr.set d x p r) := rfl
theorem set_n (p : Ps) (t : Tr α) : ∃ a b c, Tr.set d x p t = .n a b c := by
  induction p generalizing t with
  | h => cases t <;> exact ⟨_, _, _, rfl⟩
  | o p ih =>
    cases t with
    | e => exact ⟨_, _, _, rfl⟩
    | n v l r => obtain ⟨a, b, c, h⟩ := ih l; exact ⟨v, .n a b c, r, by rw [set_o', h]⟩
  | i p ih =>
    cases t with
    | e => exact ⟨_, _, _, rfl⟩
    | n v l r => obtain ⟨a, b, c, h⟩ := ih r; exact ⟨v, l, .n a b c, by rw [set_i', h]⟩
theorem set_o (p : Ps) (v : α) (l r : Tr α) : Tr.set d x (.o p) (.n v l r) = .n v (Tr.set d x p l) r := by
  obtain ⟨a, b, c, h⟩ := set_n (d := d) (x := x) p l
  rw [set_o', h]
theorem set_i (p : Ps) (v : α) (l r : Tr α) : Tr.set d x (.i p) (.n v l r) = .n v l (Tr.set d x p r) := by
  obtain ⟨a, b, c, h⟩ := set_n (d := d) (x := x) p r
  rw [set_i', h]
theorem get_set (p : Ps) (t : Tr α) (q : Ps) : Tr.get d q (Tr.set d x p t) = if q = p then x else Tr.get d q t := by
  induction p generalizing t q with
  | h => cases t <;> cases q <;> simp [Tr.set, Tr.get, get_e] <;> (try rfl) <;> exact get_e _
  | o p ih =>
    cases t with
    | e =>
      show Tr.get d q (.n d (Tr.set d x p .e) .e) = _
      cases q with
      | h => simp; rfl
      | o q => show Tr.get d q (Tr.set d x p .e) = _; rw [ih]; simp [get_e]
      | i q => rw [if_neg (by simp), get_e]; exact get_e q
    | n v l r =>
      rw [set_o]
      cases q with
      | h => simp; rfl
      | o q => show Tr.get d q (Tr.set d x p l) = _; rw [ih]; simp; rfl
      | i q => simp; rfl
  | i p ih =>
    cases t with
    | e =>
      show Tr.get d q (.n d .e (Tr.set d x p .e)) = _
      cases q with
      | h => simp; rfl
      | o q => rw [if_neg (by simp), get_e]; exact get_e q
      | i q => show Tr.get d q (Tr.set d x p .e) = _; rw [ih]; simp [get_e]
    | n v l r =>
      rw [set_i]
      cases q with
      | h => simp; rfl
      | o q => simp; rfl
      | i q => show Tr.get d q (Tr.set d x p r) = _; rw [ih]; simp; rfl
end
/-! ### numbers of places -/
def Ps.num : Ps → Nat
  | .h => 1 | .o p => 2 * p.num | .i p => 2 * p.num + 1
theorem Ps.num_succ (p : Ps) : p.succ.num = p.num + 1 := by
  induction p with
  | h => rfl
  | o p _ => rfl
  | i p ih => simp [Ps.succ, Ps.num, ih]; omega
theorem Ps.num_pos (p : Ps) : 0 < p.num := by induction p <;> simp [Ps.num] <;> omega
theorem Ps.num_inj : ∀ {p q : Ps}, p.num = q.num → p = q := by
  intro p
  induction p with
  | h => intro q e; cases q with
    | h => rfl
    | o q => simp [Ps.num] at e; omega
    | i q => simp [Ps.num] at e; have := q.num_pos; omega
  | o p ih => intro q e; cases q with
    | h => simp [Ps.num] at e; omega
    | o q => simp [Ps.num] at e; rw [ih (q := q) (by omega)]
    | i q => simp [Ps.num] at e; omega
  | i p ih => intro q e; cases q with
    | h => simp [Ps.num] at e; have := p.num_pos; omega
    | o q => simp [Ps.num] at e; omega
    | i q => simp [Ps.num] at e; rw [ih (q := q) (by omega)]
theorem Ps.eqN_iff : ∀ {p q : Ps}, Ps.eqN p q = true ↔ p = q := by
  intro p
  induction p with
  | h => intro q; cases q <;> simp [Ps.eqN]
  | o p ih => intro q; cases q <;> simp [Ps.eqN, ih]
  | i p ih => intro q; cases q <;> simp [Ps.eqN, ih]

/-! ### bytes -/
theorem shl_eq (d n : Nat) : shl d n = d * 256 ^ n := by
  unfold shl; show d <<< (8 * n) = _
  rw [Nat.shiftLeft_eq, show (256 : Nat) = 2 ^ 8 from rfl, ← Nat.pow_mul]
theorem shr_eq (d n : Nat) : shr d n = d / 256 ^ n := by
  unfold shr; show d >>> (8 * n) = _
  rw [Nat.shiftRight_eq_div_pow, show (256 : Nat) = 2 ^ 8 from rfl, ← Nat.pow_mul]
theorem low_eq (d n : Nat) : low d n = d % 256 ^ n := rfl
/-- byte i of a number -/
def byt (d i : Nat) : Nat := d / 256 ^ i % 256
theorem low_shr (d i : Nat) : low (shr d i) 1 = byt d i := by rw [low_eq, shr_eq]; simp [byt]
theorem byt_lt (d i : Nat) : byt d i < 256 := Nat.mod_lt _ (by omega)
theorem pow_pos' (n : Nat) : 0 < 256 ^ n := Nat.pow_pos (by omega)
theorem byt_shr (d n i : Nat) : byt (shr d n) i = byt d (n + i) := by rw [shr_eq, byt, byt, Nat.div_div_eq_div_mul, Nat.pow_add]
theorem byt_low {d n i : Nat} (h : i < n) : byt (low d n) i = byt d i := by
  rw [low_eq]; unfold byt
  obtain ⟨k, rfl⟩ : ∃ k, n = i + (k + 1) := ⟨n - i - 1, by omega⟩
  rw [Nat.pow_add, Nat.mod_mul_right_div_self, Nat.pow_succ, Nat.mul_comm (256 ^ k) 256, Nat.mod_mul_right_mod]
theorem byt_add_low {d e n i : Nat} (hd : d < 256 ^ n) (h : i < n) : byt (Nat.add d (shl e n)) i = byt d i := by
  rw [shl_eq]
  have : byt (d + e * 256 ^ n) i = byt (low (d + e * 256 ^ n) n) i := (byt_low h).symm
  show byt (d + e * 256 ^ n) i = _
  rw [this, low_eq, Nat.add_mul_mod_self_right, Nat.mod_eq_of_lt hd]
theorem byt_add_high {d e n i : Nat} (hd : d < 256 ^ n) : byt (Nat.add d (shl e n)) (n + i) = byt e i := by
  rw [shl_eq, ← byt_shr]
  show byt (shr (d + e * 256 ^ n) n) i = _
  rw [shr_eq, Nat.add_mul_div_right _ _ (pow_pos' n), Nat.div_eq_of_lt hd, Nat.zero_add]
theorem add_lt {d e n m : Nat} (hd : d < 256 ^ n) (he : e < 256 ^ m) : Nat.add d (shl e n) < 256 ^ (n + m) := by
  rw [shl_eq, Nat.pow_add]
  show d + e * 256 ^ n < _
  calc d + e * 256 ^ n < 256 ^ n + e * 256 ^ n := by omega
    _ = (e + 1) * 256 ^ n := by rw [Nat.add_mul]; omega
    _ ≤ 256 ^ m * 256 ^ n := Nat.mul_le_mul_right _ he
    _ = _ := Nat.mul_comm _ _
theorem low_lt (d n : Nat) : low d n < 256 ^ n := Nat.mod_lt _ (pow_pos' n)
theorem shr_lt {d n m : Nat} (h : d < 256 ^ m) (hn : n ≤ m) : shr d n < 256 ^ (m - n) := by
  rw [shr_eq, Nat.div_lt_iff_lt_mul (pow_pos' n), ← Nat.pow_add]
  rwa [show m - n + n = m from by omega]
theorem byt_ext {n a b : Nat} (ha : a < 256 ^ n) (hb : b < 256 ^ n) (h : ∀ i < n, byt a i = byt b i) : a = b := by
  induction n generalizing a b with
  | zero => simp at ha hb; omega
  | succ n ih =>
    have h0 := h 0 (by omega)
    simp [byt] at h0
    have hh : a / 256 = b / 256 := ih
      (by rw [Nat.div_lt_iff_lt_mul (by omega)]; rwa [Nat.pow_succ] at ha) (by rw [Nat.div_lt_iff_lt_mul (by omega)]; rwa [Nat.pow_succ] at hb)
      (fun i hi => by
        have := h (i + 1) (by omega)
        simp only [byt, Nat.pow_succ, Nat.mul_comm (256 ^ i) 256, ← Nat.div_div_eq_div_mul] at this
        exact this)
    omega

/-! ### cells -/
def byA (d i : Nat) : AV := .nt .u8 (Int.ofNat (byt d i))
def bys (n d : Nat) : List AV := (List.range n).map (byA d)
@[simp] theorem bys_len (n d : Nat) : (bys n d).length = n := by simp [bys]
theorem bys_get (n d i : Nat) (h : i < n) : (bys n d)[i]? = some (byA d i) := by simp [bys, h]
theorem bys_ext {n : Nat} {a b : Nat} (h : ∀ i < n, byt a i = byt b i) : bys n a = bys n b := by
  unfold bys; apply List.map_congr_left; intro i hi; simp at hi; simp [byA, h i hi]
theorem bys_add {n m d e : Nat} (hd : d < 256 ^ n) : bys (n + m) (Nat.add d (shl e n)) = bys n d ++ bys m e := by
  apply List.ext_getElem?
  intro i
  by_cases h : i < n
  · rw [bys_get _ _ _ (by omega), List.getElem?_append_left (by simpa using h), bys_get _ _ _ h, byA, byA, byt_add_low hd h]
  · rw [List.getElem?_append_right (by simp; omega), bys_len]
    by_cases h2 : i < n + m
    · rw [bys_get _ _ _ h2, bys_get _ _ _ (by omega), byA, byA]
      have := byt_add_high (e := e) hd (i := i - n)
      rw [show n + (i - n) = i from by omega] at this; rw [this]
    · rw [List.getElem?_eq_none (by simp; omega), List.getElem?_eq_none (by simp; omega)]
theorem bys_drop (m d n : Nat) (h : n ≤ m) : bys (m - n) (shr d n) = (bys m d).drop n := by
  apply List.ext_getElem?
  intro i
  rw [List.getElem?_drop]
  by_cases h2 : i < m - n
  · rw [bys_get _ _ _ h2, bys_get _ _ _ (by omega), byA, byA, byt_shr]
  · rw [List.getElem?_eq_none (by simp; omega), List.getElem?_eq_none (by simp; omega)]
theorem bys_take (m d n : Nat) (h : n ≤ m) : bys n (low d n) = (bys m d).take n := by
  apply List.ext_getElem?
  intro i
  by_cases h2 : i < n
  · rw [bys_get _ _ _ h2, List.getElem?_take_of_lt h2, bys_get _ _ _ (by omega), byA, byA, byt_low h2]
  · rw [List.getElem?_eq_none (by simp; omega), List.getElem?_eq_none (by simp; omega)]

def CL.exp : CV → List AV
  | .nil => [] | .c v r => v :: r.exp | .b n d r => bys n d ++ r.exp
/-- the packed pieces have no more than their bytes -/
def CL.wf : CV → Prop
  | .nil => True | .c _ r => r.wf | .b n d r => d < 256 ^ n ∧ r.wf
theorem exp_len (c : CV) : c.len = c.exp.length := by
  induction c with
  | nil => rfl
  | c v r ih => show Nat.add r.len 1 = _; simp [CL.exp, ← ih]
  | b n d r ih => show Nat.add n r.len = _; simp [CL.exp, ← ih]
theorem exp_mkb {n d : Nat} {r : CV} (hd : d < 256 ^ n) : (mkb n d r).exp = bys n d ++ r.exp := by
  unfold mkb
  rw [bf_if]
  split
  · rename_i h
    have : n = 0 := by simpa using h
    subst this; rfl
  · split
    · rw [CL.exp]; show bys (n + _) _ ++ _ = _; rw [bys_add hd]; simp [CL.exp]
    · rfl
theorem wf_mkb {n d : Nat} {r : CV} (hd : d < 256 ^ n) (hr : r.wf) : (mkb n d r).wf := by
  unfold mkb
  rw [bf_if]
  split
  · exact hr
  · split
    · exact ⟨add_lt hd hr.1, hr.2⟩
    · exact ⟨hd, hr⟩
theorem app_nil (s : CV) : CL.app s .nil = s := rfl
theorem app_c (s : CV) (v) (r : CV) : CL.app s (.c v r) = .c v (CL.app s r) := rfl
theorem app_b (s : CV) (n d) (r : CV) : CL.app s (.b n d r) = mkb n d (CL.app s r) := rfl
theorem exp_app {s c : CV} (hc : c.wf) : (CL.app s c).exp = c.exp ++ s.exp := by
  induction c with
  | nil => rfl
  | c v r ih => rw [app_c]; simp [CL.exp, ih hc]
  | b n d r ih => rw [app_b, exp_mkb hc.1, ih hc.2]; simp [CL.exp]
theorem wf_app {s c : CV} (hs : s.wf) (hc : c.wf) : (CL.app s c).wf := by
  induction c with
  | nil => exact hs
  | c v r ih => exact ih hc
  | b n d r ih => rw [app_b]; exact wf_mkb hc.1 (ih hc.2)
theorem drop_nil (n : Nat) : CL.drop (.nil : CV) n = .nil := rfl
theorem drop_c (v) (r : CV) (n : Nat) : CL.drop (.c v r) n = bf (Nat.beq n 0) (.c v r) (r.drop (Nat.pred n)) := rfl
theorem drop_b (m d) (r : CV) (n : Nat) : CL.drop (.b m d r) n = bf (Nat.ble m n) (r.drop (Nat.sub n m)) (.b (Nat.sub m n) (shr d n) r) := rfl
theorem exp_drop (c : CV) (n : Nat) : (c.drop n).exp = c.exp.drop n := by
  induction c generalizing n with
  | nil => simp [drop_nil, CL.exp]
  | c v r ih =>
    rw [drop_c, bf_if]
    split
    · rename_i h; have : n = 0 := by simpa using h
      subst this; rfl
    · rename_i h; have : n ≠ 0 := by simpa using h
      obtain ⟨k, rfl⟩ : ∃ k, n = k + 1 := ⟨n - 1, by omega⟩
      rw [ih]; simp [CL.exp]
  | b m d r ih =>
    rw [drop_b, bf_if]
    split
    · rename_i h; have : m ≤ n := by simpa using h
      rw [ih, CL.exp, List.drop_append, List.drop_eq_nil_of_le (as := bys m d) (by simpa using this)]; simp
    · rename_i h; have : n < m := by simpa using h
      rw [CL.exp, CL.exp, List.drop_append, show n - (bys m d).length = 0 from by simp; omega]
      show bys (m - n) _ ++ _ = _
      rw [bys_drop _ _ _ (by omega)]; simp
theorem wf_drop {c : CV} (h : c.wf) (n : Nat) : (c.drop n).wf := by
  induction c generalizing n with
  | nil => trivial
  | c v r ih => rw [drop_c, bf_if]; split; exact h; exact ih h _
  | b m d r ih =>
    rw [drop_b, bf_if]; split
    · exact ih h.2 _
    · rename_i hh; have : n < m := by simpa using hh
      exact ⟨shr_lt h.1 (by omega), h.2⟩
theorem take_c (v) (r : CV) (n : Nat) : CL.take (.c v r) n = bf (Nat.beq n 0) .nil (.c v (r.take (Nat.pred n))) := rfl
theorem take_b (m d) (r : CV) (n : Nat) : CL.take (.b m d r) n = bf (Nat.ble m n) (.b m d (r.take (Nat.sub n m))) (bf (Nat.beq n 0) .nil (.b n (low d n) .nil)) := rfl
theorem exp_take (c : CV) (n : Nat) : (c.take n).exp = c.exp.take n := by
  induction c generalizing n with
  | nil => show ([] : List AV) = _; simp [CL.exp]
  | c v r ih =>
    rw [take_c, bf_if]
    split
    · rename_i h; have : n = 0 := by simpa using h
      subst this; rfl
    · rename_i h; have : n ≠ 0 := by simpa using h
      obtain ⟨k, rfl⟩ : ∃ k, n = k + 1 := ⟨n - 1, by omega⟩
      rw [CL.exp, ih]; simp [CL.exp]
  | b m d r ih =>
    rw [take_b, bf_if]
    split
    · rename_i h; have : m ≤ n := by simpa using h
      rw [CL.exp, ih, CL.exp, List.take_append, List.take_of_length_le (l := bys m d) (by simp; omega)]; simp
    · rename_i h; have : n < m := by simpa using h
      rw [bf_if]
      split
      · rename_i h0; have : n = 0 := by simpa using h0
        subst this; simp [CL.exp]
      · rw [CL.exp, CL.exp, CL.exp, List.take_append, bys_take _ _ _ (Nat.le_of_lt this), show n - (bys m d).length = 0 from by simp; omega]; simp
theorem wf_take {c : CV} (h : c.wf) (n : Nat) : (c.take n).wf := by
  induction c generalizing n with
  | nil => trivial
  | c v r ih => rw [take_c, bf_if]; split; trivial; exact ih h _
  | b m d r ih =>
    rw [take_b, bf_if]; split
    · exact ⟨h.1, ih h.2 _⟩
    · rw [bf_if]; split; trivial; exact ⟨low_lt _ _, trivial⟩
theorem exp_sub (c : CV) (off n : Nat) : (c.sub off n).exp = (c.exp.drop off).take n := by rw [CL.sub, exp_take, exp_drop]
theorem wf_sub {c : CV} (h : c.wf) (off n : Nat) : (c.sub off n).wf := wf_take (wf_drop h _) _
theorem put_c (new : CV) (k v) (r : CV) (n : Nat) : CL.put new k (.c v r) n = bf (Nat.beq n 0) (CL.app ((CL.c v r).drop k) new) (.c v (CL.put new k r (Nat.pred n))) := rfl
theorem put_b (new : CV) (k m d) (r : CV) (n : Nat) : CL.put new k (.b m d r) n = bf (Nat.ble m n) (mkb m d (CL.put new k r (Nat.sub n m))) (mkb n (low d n) (CL.app ((CL.b m d r).drop (Nat.add n k)) new)) := rfl
theorem exp_put {new : CV} (hn : new.wf) (k : Nat) {c : CV} (hc : c.wf) (n : Nat) (h : n + k ≤ c.exp.length) : (CL.put new k c n).exp = c.exp.take n ++ (new.exp ++ c.exp.drop (n + k)) := by
  induction c generalizing n with
  | nil => simp [CL.exp] at h ⊢; rfl
  | c v r ih =>
    rw [put_c, bf_if]
    split
    · rename_i h0; have : n = 0 := by simpa using h0
      subst this; rw [exp_app hn, exp_drop]; simp
    · rename_i h0; have : n ≠ 0 := by simpa using h0
      obtain ⟨j, rfl⟩ : ∃ j, n = j + 1 := ⟨n - 1, by omega⟩
      simp [CL.exp] at h
      rw [CL.exp]; show v :: (CL.put new k r j).exp = _
      rw [ih hc _ (by omega)]; simp [CL.exp, show j + 1 + k = j + k + 1 from by omega]
  | b m d r ih =>
    rw [put_b, bf_if]
    simp [CL.exp] at h
    split
    · rename_i h0; have h0 : m ≤ n := by simpa using h0
      rw [exp_mkb hc.1, CL.exp]
      show bys m d ++ (CL.put new k r (n - m)).exp = _
      rw [ih hc.2 _ (by omega), List.take_append, List.drop_append, List.take_of_length_le (l := bys m d) (by simp; omega), List.drop_eq_nil_of_le (as := bys m d) (by simp; omega)]
      simp [show n + k - m = n - m + k from by omega]
    · rename_i h0; have h0 : n < m := by simpa using h0
      rw [exp_mkb (low_lt _ _), exp_app hn, exp_drop, bys_take m _ _ (by omega), CL.exp, List.take_append, show n - (bys m d).length = 0 from by simp; omega]
      simp
theorem wf_put {new : CV} (hn : new.wf) (k : Nat) {c : CV} (hc : c.wf) (n : Nat) : (CL.put new k c n).wf := by
  induction c generalizing n with
  | nil => exact hn
  | c v r ih => rw [put_c, bf_if]; split; exact wf_app (wf_drop hc _) hn; exact ih hc _
  | b m d r ih =>
    rw [put_b, bf_if]; split
    · exact wf_mkb hc.1 (ih hc.2 _)
    · exact wf_mkb (low_lt _ _) (wf_app (wf_drop hc _) hn)
theorem nth_c (v) (r : CV) (n : Nat) : CL.nth (.c v r) n = bf (Nat.beq n 0) v (r.nth (Nat.pred n)) := rfl
theorem nth_b (m d) (r : CV) (n : Nat) : CL.nth (.b m d r) n = bf (Nat.ble m n) (r.nth (Nat.sub n m)) (.nt .u8 (Int.ofNat (low (shr d n) 1))) := rfl
theorem exp_nth (c : CV) (n : Nat) : c.nth n = (c.exp[n]?).getD .un := by
  induction c generalizing n with
  | nil => simp [CL.exp]; rfl
  | c v r ih =>
    rw [nth_c, bf_if]
    split
    · rename_i h; have : n = 0 := by simpa using h
      subst this; rfl
    · rename_i h; have : n ≠ 0 := by simpa using h
      obtain ⟨k, rfl⟩ : ∃ k, n = k + 1 := ⟨n - 1, by omega⟩
      rw [ih]; simp [CL.exp]
  | b m d r ih =>
    rw [nth_b, bf_if, CL.exp]
    split
    · rename_i h; have : m ≤ n := by simpa using h
      rw [ih, List.getElem?_append_right (by simpa using this)]; simp
    · rename_i h; have : n < m := by simpa using h
      rw [List.getElem?_append_left (by simpa using this), bys_get _ _ _ this, low_shr]; rfl
end
end Ev
namespace Ev
noncomputable section
open Go

/-! ### where things lie, which values are meant -/
structure Loc where
  blk : Nat
  base : Nat
  size : Nat
abbrev Rho := Ps → Option Loc
def Rho.le (ρ σ : Rho) : Prop := ∀ i l, ρ i = some l → σ i = some l
theorem Rho.le_refl (ρ : Rho) : ρ.le ρ := fun _ _ h => h
theorem Rho.le_trans {ρ σ τ : Rho} (h : ρ.le σ) (k : σ.le τ) : ρ.le τ := fun i l e => k i l (h i l e)

def strOf (n d : Nat) : ByteArray := ⟨((List.range n).map fun i => UInt8.ofNat (byt d i)).toArray⟩
def Ps.idx (p : Ps) : Nat := p.num - 1

mutual
inductive VR (ρ : Rho) : AV → Value → Prop
  | un (v : Value) : VR ρ .un v
  | ud : VR ρ .ud undef
  | bo (b : Bool) : VR ρ (.bo b) (.bool b)
  | nt (k : IntKind) (n : Int) : VR ρ (.nt k n) (.int k n)
  | st (n d : Nat) (h : d < 256 ^ n) : VR ρ (.st n d) (.string (strOf n d))
  | pn : VR ρ .pn (.pointer none)
  | pt {a : Ps} {l : Loc} (off : Nat) (h : ρ a = some l) : VR ρ (.pt a off) (.pointer (some ⟨l.blk, l.base + off, none⟩))
  | sn : VR ρ .sn (.slice none 0 0)
  | se (a : Addr) (c : Nat) : VR ρ .se (.slice (some a) 0 c)
  | sl {a : Ps} {l : Loc} {off len cap esz c : Nat} {ex : Bool} (h : ρ a = some l) (he : ex = true → c = cap) (hc : cap ≤ c) (hl : len ≤ cap) (hs : off + c * esz ≤ l.size) :
      VR ρ (.sl a off len cap ex esz) (.slice (some ⟨l.blk, l.base + off, none⟩) len c)
  | mn : VR ρ .mn (.map none)
  | mp {a : Ps} {l : Loc} (h : ρ a = some l) : VR ρ (.mp a) (.map (some l.blk))
  | cn : VR ρ .cn (.chan none)
  | ch {a : Ps} {l : Loc} (h : ρ a = some l) : VR ρ (.ch a) (.chan (some l.blk))
  | fn {f : Ps} {a b : CV} {xs ys : Array Value} (ha : AL ρ a.exp xs.toList) (hb : AL ρ b.exp ys.toList) (hwa : a.wf) (hwb : b.wf) : VR ρ (.fn f a b) (.func (.func f.idx) xs ys)
  | yl {a : Ps} {l : Loc} (h : ρ a = some l) : VR ρ (.yl a) (.func (.yield l.blk) #[] #[])
  | fz : VR ρ .fz .nilFunc
  | it {t : Nat} {v : AV} {x : Value} (h : VR ρ v x) : VR ρ (.it t v) (.iface t x)
  | iz : VR ρ .iz .nilIface
  | ag {c : CV} {xs : Array Value} (h : AL ρ c.exp xs.toList) (hw : c.wf) : VR ρ (.ag c) (.agg xs)
  | tu {c : CV} {xs : Array Value} (h : AL ρ c.exp xs.toList) (hw : c.wf) : VR ρ (.tu c) (.tuple xs)
inductive AL (ρ : Rho) : List AV → List Value → Prop
  | nil : AL ρ [] []
  | cons {v : AV} {x : Value} {vs : List AV} {xs : List Value} (h : VR ρ v x) (t : AL ρ vs xs) : AL ρ (v :: vs) (x :: xs)
end

mutual
theorem VR.mono {ρ σ : Rho} (hle : ρ.le σ) : ∀ {v : AV} {x : Value}, VR ρ v x → VR σ v x
  | _, _, .un v => .un v
  | _, _, .ud => .ud
  | _, _, .bo b => .bo b
  | _, _, .nt k n => .nt k n
  | _, _, .st n d h => .st n d h
  | _, _, .pn => .pn
  | _, _, .pt off h => .pt off (hle _ _ h)
  | _, _, .sn => .sn
  | _, _, .se a c => .se a c
  | _, _, .sl h a b c d => .sl (hle _ _ h) a b c d
  | _, _, .mn => .mn
  | _, _, .mp h => .mp (hle _ _ h)
  | _, _, .cn => .cn
  | _, _, .ch h => .ch (hle _ _ h)
  | _, _, .fn a b wa wb => .fn (AL.mono hle a) (AL.mono hle b) wa wb
  | _, _, .yl h => .yl (hle _ _ h)
  | _, _, .fz => .fz
  | _, _, .it h => .it (VR.mono hle h)
  | _, _, .iz => .iz
  | _, _, .ag h w => .ag (AL.mono hle h) w
  | _, _, .tu h w => .tu (AL.mono hle h) w
theorem AL.mono {ρ σ : Rho} (hle : ρ.le σ) : ∀ {v : List AV} {x : List Value}, AL ρ v x → AL σ v x
  | _, _, .nil => .nil
  | _, _, .cons h t => .cons (VR.mono hle h) (AL.mono hle t)
end
section
variable {ρ : Rho}
theorem AL.length {vs : List AV} {xs : List Value} (h : AL ρ vs xs) : vs.length = xs.length := by
  induction vs generalizing xs with
  | nil => cases h; rfl
  | cons v vs ih => cases h with | cons h t => simp [ih t]
theorem AL.append {vs us : List AV} {xs ys : List Value} (h : AL ρ vs xs) (k : AL ρ us ys) : AL ρ (vs ++ us) (xs ++ ys) := by
  induction vs generalizing xs with
  | nil => cases h; exact k
  | cons v vs ih => cases h with | cons h t => exact .cons h (ih t)
theorem AL.take {vs : List AV} {xs : List Value} (h : AL ρ vs xs) (n : Nat) : AL ρ (vs.take n) (xs.take n) := by
  induction vs generalizing xs n with
  | nil => cases h; simp; exact .nil
  | cons v vs ih =>
    cases h with
    | cons h t => cases n with
      | zero => simp; exact .nil
      | succ n => simp; exact .cons h (ih t n)
theorem AL.drop {vs : List AV} {xs : List Value} (h : AL ρ vs xs) (n : Nat) : AL ρ (vs.drop n) (xs.drop n) := by
  induction vs generalizing xs n with
  | nil => cases h; simp; exact .nil
  | cons v vs ih =>
    cases h with
    | cons h t => cases n with
      | zero => exact .cons h t
      | succ n => simp; exact ih t n
theorem AL.get {vs : List AV} {xs : List Value} (h : AL ρ vs xs) {n : Nat} {v : AV} (e : vs[n]? = some v) : ∃ x, xs[n]? = some x ∧ VR ρ v x := by
  induction vs generalizing xs n with
  | nil => simp at e
  | cons u us ih =>
    cases h with
    | cons h t => cases n with
      | zero => simp at e; subst e; exact ⟨_, rfl, h⟩
      | succ n => simp at e ⊢; exact ih t e
theorem AL.bys (n d : Nat) : AL ρ (Ev.bys n d) ((List.range n).map fun i => Value.int .u8 (Int.ofNat (byt d i))) := by
  unfold Ev.bys
  generalize List.range n = l
  induction l with
  | nil => exact .nil
  | cons i l ih => exact .cons (.nt _ _) ih
/-- what the packed bytes and others are, of cells -/
theorem VR.cells {v : AV} {x : Value} (h : VR ρ v x) (hv : ∀ c, v ≠ .ag c) (ha : ∀ cs, x ≠ .agg cs) : AL ρ v.cl.exp x.cells.toList ∧ v.cl.wf := by
  have hx : x.cells = #[x] := by cases x <;> first | rfl | exact absurd rfl (ha _)
  have hc : v.cl = mkc v .nil := by cases v <;> first | rfl | exact absurd rfl (hv _)
  rw [hx, hc]
  unfold mkc
  split
  · rename_i m
    rw [bf_if]
    split
    · rename_i hm
      have hm : m ≤ 255 := by simpa using hm
      have hlt : m < 256 ^ 1 := by omega
      refine ⟨?_, wf_mkb hlt trivial⟩
      rw [exp_mkb hlt]
      cases h
      simp only [CL.exp, Ev.bys, byA, List.append_nil]
      show AL ρ [AV.nt .u8 (Int.ofNat (byt m 0))] _
      rw [show byt m 0 = m from by simp [byt]; omega]
      exact .cons (.nt _ _) .nil
    · exact ⟨.cons h .nil, trivial⟩
  · exact ⟨.cons h .nil, trivial⟩
end

/-! ### blocks -/
structure Tb where
  P : Program
  ofL : Nat → Nat → List Ps → Tr AV → Array Value → Array Tmp → Code → Code → Prop
def ER (ρ : Rho) (t : Tr AV) (tm : Array Value) : Prop := ∀ i : Ps, i.idx ≤ 1000000 → VR ρ (Tr.get .un i t) (tm.getD i.idx undef)
inductive ML (ρ : Rho) : List (AV × AV × Nat) → List MapEntry → Prop
  | nil : ML ρ [] []
  | cons {k v : AV} {b : Nat} {x y : Value} {r : List (AV × AV × Nat)} {es : List MapEntry} (hk : VR ρ k x) (hv : VR ρ v y) (t : ML ρ r es) : ML ρ ((k, v, b) :: r) ({ key := x, val := y, born := b } :: es)
def jpC : Jp → Code
  | .rt => .ret | .ex i => .exit i
inductive BR (T : Tb) (ρ : Rho) : Loc → AB → Obj → Prop
  | cells {l : Loc} {c : CV} {ty : Nat} {ex lk : Bool} {arr : Array Value} {fz : Nat × Nat} {pre xs post : List Value}
      (he : arr.toList = pre ++ xs ++ post) (hp : pre.length = l.base) (hx : AL ρ c.exp xs) (hw : c.wf) (hs : l.size = xs.length + post.length) (hex : ex = true → pre = [] ∧ post = [])
      (hf : lk = false → ∀ j < arr.size, ¬ (fz.1 ≤ j ∧ j < fz.2)) : BR T ρ l (.cells c ty ex lk) (.cells arr ty fz)
  | map {l : Loc} {m : List (AV × AV × Nat)} {es : Array MapEntry} {c : Nat} (h : ML ρ m es.toList) : BR T ρ l (.map m c) (.map es c)
  | chan {l : Loc} {cap s r : Nat} {b : CV} {arr : Array Value} (h : AL ρ b.exp arr.toList) (hw : b.wf) : BR T ρ l (.chan cap b s r) (.chan cap arr false s r false)
  | shut {l : Loc} {cap s r : Nat} {b : CV} {arr : Array Value} (h : AL ρ b.exp arr.toList) (hw : b.wf) : BR T ρ l (.shut cap b s r) (.chan cap arr true s r false)
  | miter0 {l : Loc} {since last : Nat} {seen : List Nat} {lb : Option Nat} {sn : Array Nat} (h0 : l.base = 0) : BR T ρ l (.miter none since seen lb last) (.mapIter none since sn last)
  | miter {l k : Loc} {m : Ps} {since last : Nat} {seen : List Nat} {lb : Option Nat} {sn : Array Nat} (h : ρ m = some k) (hs : ∀ b, b ∈ seen ↔ b ∈ sn) (hl : ∀ b, lb = some b → sn.back? = some b) (hb : ∀ b ∈ seen, b < since) (hsl : since ≤ last) (h0 : l.base = 0) :
      BR T ρ l (.miter (some m) since seen lb last) (.mapIter (some k.blk) since sn last)
  | loop {l : Loc} {busy done : Bool} {pend : Option Jp} {t : Tr AV} {ps : List Ps} {i j : Nat} {L : Loop} (hst : L.state = if done then .done else if busy then .busy else .ready)
      (hpe : L.pending = pend.map jpC) (ht : ER ρ t L.tmps) (hl : T.ofL i j ps t L.tmps L.params L.assign L.body) : BR T ρ l (.loop busy pend done t ps i j) (.loop L)
  | defs {l : Loc} : BR T ρ l .defs (.deferred (some []))
theorem ML.mono {ρ σ : Rho} (hle : ρ.le σ) {m : List (AV × AV × Nat)} {es : List MapEntry} (h : ML ρ m es) : ML σ m es := by
  induction h with
  | nil => exact .nil
  | cons hk hv _ ih => exact .cons (hk.mono hle) (hv.mono hle) ih
theorem ER.mono {ρ σ : Rho} (hle : ρ.le σ) {t : Tr AV} {tm : Array Value} (h : ER ρ t tm) : ER σ t tm := fun i hi => (h i hi).mono hle
theorem BR.mono {T : Tb} {ρ σ : Rho} (hle : ρ.le σ) {l : Loc} {b : AB} {o : Obj} (h : BR T ρ l b o) : BR T σ l b o := by
  cases h with
  | cells he hp hx hw hs hex hf => exact .cells he hp (hx.mono hle) hw hs hex hf
  | map h => exact .map (h.mono hle)
  | chan h hw => exact .chan (h.mono hle) hw
  | shut h hw => exact .shut (h.mono hle) hw
  | miter0 h0 => exact .miter0 h0
  | miter h hs hl hb hsl h0 => exact .miter (hle _ _ h) hs hl hb hsl h0
  | loop a b c d => exact .loop a b (c.mono hle) d
  | defs => exact .defs

/-! ### memories -/
def HP.live (h : HP) (i : Ps) : Prop := h.get i ≠ .dead
structure Good (T : Tb) (ρ : Rho) (h : HP) (w : World) : Prop where
  blk : ∀ i, h.live i → ∃ l o, ρ i = some l ∧ w.heap[l.blk]? = some o ∧ BR T ρ l (h.get i) o
  inj : ∀ i j l k, h.live i → h.live j → ρ i = some l → ρ j = some k → l.blk = k.blk → i = j
  dom : ∀ i l, ρ i = some l → i.num < h.nx.num
structure Post (T : Tb) (ρ : Rho) (h : HP) (w : World) (σ : Rho) (k : HP) (v : World) : Prop where
  le : ρ.le σ
  good : Good T σ k v
  nx : h.nx.num ≤ k.nx.num
  old : ∀ i l, σ i = some l → i.num < h.nx.num → ρ i = some l
  size : w.heap.size ≤ v.heap.size
  far : ∀ r < w.heap.size, (∀ i l, h.live i → ρ i = some l → l.blk ≠ r) → v.heap[r]? = w.heap[r]?
  come : ∀ i l, k.live i → σ i = some l → (∃ j m, h.live j ∧ ρ j = some m ∧ m.blk = l.blk) ∨ w.heap.size ≤ l.blk
  os : v.os = w.os
  tape : v.tape = w.tape
  out : v.output = w.output
theorem Post.refl {T : Tb} {ρ : Rho} {h : HP} {w : World} (g : Good T ρ h w) : Post T ρ h w ρ h w :=
  ⟨Rho.le_refl _, g, Nat.le_refl _, fun _ _ e _ => e, Nat.le_refl _, fun _ _ _ => rfl, fun i l hl e => .inl ⟨i, l, hl, e, rfl⟩, rfl, rfl, rfl⟩
theorem Post.trans {T : Tb} {ρ σ τ : Rho} {h k m : HP} {w v u : World} (a : Post T ρ h w σ k v) (b : Post T σ k v τ m u) : Post T ρ h w τ m u where
  le := Rho.le_trans a.le b.le
  good := b.good
  nx := Nat.le_trans a.nx b.nx
  old := fun i l e hi => a.old i l (b.old i l e (Nat.lt_of_lt_of_le hi a.nx)) hi
  size := Nat.le_trans a.size b.size
  far := fun r hr hf => by
    rw [← a.far r hr hf]
    refine b.far r (Nat.lt_of_lt_of_le hr a.size) fun i l hl e hb => ?_
    rcases a.come i l hl e with ⟨j, n, hj, ej, hb'⟩ | hge
    · exact hf j n hj ej (hb'.trans hb)
    · omega
  come := fun i l hl e => by
    rcases b.come i l hl e with ⟨j, n, hj, ej, hb'⟩ | hge
    · rcases a.come j n hj ej with ⟨j', n', hj', ej', hb''⟩ | hge
      · exact .inl ⟨j', n', hj', ej', hb''.trans hb'⟩
      · exact .inr (by omega)
    · exact .inr (Nat.le_trans a.size hge)
  os := b.os.trans a.os
  tape := b.tape.trans a.tape
  out := b.out.trans a.out
/-- draws turn nothing else -/
def drew (w : World) (n : Nat) : World := { w with drawn := n }
theorem Good.drew {T : Tb} {ρ : Rho} {h : HP} {w : World} (g : Good T ρ h w) (n : Nat) : Good T ρ h (drew w n) := ⟨g.blk, g.inj, g.dom⟩
theorem Post.drew {T : Tb} {ρ : Rho} {h : HP} {w : World} (g : Good T ρ h w) (n : Nat) : Post T ρ h w ρ h (drew w n) :=
  ⟨Rho.le_refl _, g.drew n, Nat.le_refl _, fun _ _ e _ => e, Nat.le_refl _, fun _ _ _ => rfl, fun i l hl e => .inl ⟨i, l, hl, e, rfl⟩, rfl, rfl, rfl⟩
theorem get_put (h : HP) (a b : Ps) (x : AB) : (h.put a x).get b = if b = a then x else h.get b := get_set _ _ _
theorem get_new (h : HP) (b : Ps) (x : AB) : (h.new x).get b = if b = h.nx then x else h.get b := get_set _ _ _
/-- a block that is live is turned into another one -/
theorem Post.put {T : Tb} {ρ : Rho} {h : HP} {w : World} (g : Good T ρ h w) {a : Ps} {l : Loc} (hl : h.live a) (ea : ρ a = some l) {b : AB} {o : Obj} (hb : BR T ρ l b o) {n : Nat} :
    Post T ρ h w ρ (h.put a b) { w with heap := w.heap.setIfInBounds l.blk o, drawn := n } := by
  have hlt : l.blk < w.heap.size := by
    obtain ⟨l', o', e', ho', _⟩ := g.blk a hl
    rw [ea] at e'; cases e'
    exact (Array.getElem?_eq_some_iff.1 ho').1
  have hlive : ∀ i, (h.put a b).live i → h.live i := fun i hi => by
    unfold HP.live at *; rw [get_put] at hi; split at hi
    · subst_vars; exact hl
    · exact hi
  refine ⟨Rho.le_refl _, ⟨fun i hi => ?_, fun i j l k hi hj => g.inj i j l k (hlive i hi) (hlive j hj), g.dom⟩, Nat.le_refl _, fun _ _ e _ => e, by simp, fun r hr hf => ?_, fun i l' hi e => .inl ⟨i, l', hlive i hi, e, rfl⟩, rfl, rfl, rfl⟩
  · by_cases hia : i = a
    · subst hia
      exact ⟨l, o, ea, by simp [hlt], by rw [get_put, if_pos rfl]; exact hb⟩
    · obtain ⟨l', o', e', ho', hb'⟩ := g.blk i (hlive i hi)
      refine ⟨l', o', e', ?_, by rw [get_put, if_neg hia]; exact hb'⟩
      have : l.blk ≠ l'.blk := fun e => hia (g.inj i a l' l (hlive i hi) hl e' ea e.symm)
      simp [Array.getElem?_setIfInBounds, this, ho']
  · have : l.blk ≠ r := hf a l hl ea
    simp [Array.getElem?_setIfInBounds, this]
/-- a new block -/
theorem Post.new {T : Tb} {ρ : Rho} {h : HP} {w : World} (g : Good T ρ h w) {b : AB} {o : Obj} {sz : Nat} (hb : BR T (fun i => if i = h.nx then some ⟨w.heap.size, 0, sz⟩ else ρ i) ⟨w.heap.size, 0, sz⟩ b o) {n : Nat} :
    Post T ρ h w (fun i => if i = h.nx then some ⟨w.heap.size, 0, sz⟩ else ρ i) (h.new b) { w with heap := w.heap.push o, drawn := n } := by
  have hn : ∀ i l, ρ i = some l → i ≠ h.nx := fun i l e hi => by have := g.dom i l e; rw [hi] at this; omega
  have hle : ρ.le (fun i => if i = h.nx then some ⟨w.heap.size, 0, sz⟩ else ρ i) := fun i l e => by simp [hn i l e, e]
  have hold : ∀ i, i ≠ h.nx → (h.new b).live i → h.live i := fun i hi hl => by unfold HP.live at *; rwa [get_new, if_neg hi] at hl
  have hlt : ∀ i l, h.live i → ρ i = some l → l.blk < w.heap.size := fun i l hl e => by
    obtain ⟨l', o', e', ho', _⟩ := g.blk i hl
    rw [e] at e'; cases e'
    exact (Array.getElem?_eq_some_iff.1 ho').1
  refine ⟨hle, ⟨fun i hi => ?_, fun i j l k hi hj ei ej e => ?_, fun i l e => ?_⟩, ?_, fun i l e hi => ?_, by simp, fun r hr hf => ?_, fun i l hi e => ?_, rfl, rfl, rfl⟩
  · by_cases hia : i = h.nx
    · subst hia
      exact ⟨⟨w.heap.size, 0, sz⟩, o, by simp, by simp, by rw [get_new, if_pos rfl]; exact hb⟩
    · obtain ⟨l', o', e', ho', hb'⟩ := g.blk i (hold i hia hi)
      refine ⟨l', o', by simp [hia, e'], ?_, by rw [get_new, if_neg hia]; exact hb'.mono hle⟩
      have := hlt i l' (hold i hia hi) e'
      simp [Array.getElem?_push, Nat.ne_of_lt this, ho']
  · by_cases hia : i = h.nx
    · by_cases hja : j = h.nx
      · rw [hia, hja]
      · simp [hia] at ei; simp [hja] at ej
        have := hlt j k (hold j hja hj) ej
        subst ei; simp at e; omega
    · by_cases hja : j = h.nx
      · simp [hja] at ej; simp [hia] at ei
        have := hlt i l (hold i hia hi) ei
        subst ej; simp at e; omega
      · simp [hia] at ei; simp [hja] at ej
        exact g.inj i j l k (hold i hia hi) (hold j hja hj) ei ej e
  · show i.num < h.nx.succ.num
    rw [Ps.num_succ]
    by_cases hia : i = h.nx
    · subst hia; omega
    · simp [hia] at e; have := g.dom i l e; omega
  · show h.nx.num ≤ h.nx.succ.num; rw [Ps.num_succ]; omega
  · have : i ≠ h.nx := fun e' => by subst e'; omega
    simpa [this] using e
  · simp [Array.getElem?_push, Nat.ne_of_lt hr]
  · by_cases hia : i = h.nx
    · simp [hia] at e; subst e; exact .inr (Nat.le_refl _)
    · simp [hia] at e
      exact .inl ⟨i, l, hold i hia hi, e, rfl⟩
end
end Ev
namespace Ev
noncomputable section
open Go

theorem of_false : R.of false = .no := rfl
theorem of_true : R.of true = .yes := rfl
theorem bf_yes {b : Bool} {x : R} (h : bf b x (R.of false) = .yes) : b = true ∧ x = .yes := by
  cases b
  · cases h
  · exact ⟨rfl, h⟩
theorem bf_yes' {b : Bool} {x : R} (h : bf b x .no = .yes) : b = true ∧ x = .yes := bf_yes h
theorem no_yes {p : Prop} (h : R.of false = .yes) : p := by cases h
theorem nat_inv {v : AV} {K : Nat → R} (h : nat v K = .yes) : ∃ k n, v = .nt k (.ofNat n) ∧ K n = .yes := by
  unfold nat at h
  split at h
  · exact ⟨_, _, rfl, h⟩
  · exact no_yes h
theorem add_mk (b o n : Nat) : (⟨b, o, none⟩ : Addr).add n = ⟨b, o + n, none⟩ := by
  unfold Addr.add; split
  · subst_vars; rfl
  · rfl

section
variable {T : Tb} {ρ : Rho} {h : HP} {w : World} {K : Kv} {P : Program}
/-- what an operation that gives a value comes to -/
def Ans (T : Tb) (P : Program) (ρ : Rho) (h : HP) (w : World) (K : Kv) (r : Sem Value) : Prop :=
  ∃ v k σ u x, K v k = .yes ∧ Post T ρ h w σ k u ∧ VR σ v x ∧ r.run P w = .ok x u
theorem Ans.still (g : Good T ρ h w) {v : AV} {x : Value} {r : Sem Value} (hk : K v h = .yes) (hv : VR ρ v x) (hr : r.run P w = .ok x w) : Ans T P ρ h w K r :=
  ⟨v, h, ρ, w, x, hk, .refl g, hv, hr⟩
/-- one that only looks -/
def AnsQ (T : Tb) (P : Program) (ρ : Rho) (h : HP) (w : World) (K : Kv) (r : Sem Value) : Prop :=
  Good T ρ h w ∧ ∃ v x, K v h = .yes ∧ VR ρ v x ∧ r.run P w = .ok x w
theorem AnsQ.still (g : Good T ρ h w) {v : AV} {x : Value} {r : Sem Value} (hk : K v h = .yes) (hv : VR ρ v x) (hr : r.run P w = .ok x w) : AnsQ T P ρ h w K r :=
  ⟨g, v, x, hk, hv, hr⟩
theorem AnsQ.ans {r : Sem Value} (a : AnsQ T P ρ h w K r) : Ans T P ρ h w K r := by
  obtain ⟨g, v, x, h1, h3, h4⟩ := a
  exact ⟨v, h, ρ, w, x, h1, .refl g, h3, h4⟩
/-- one that gives none -/
def AnsU (T : Tb) (P : Program) (ρ : Rho) (h : HP) (w : World) (K : HP → R) (r : Sem Unit) : Prop :=
  ∃ k σ u, K k = .yes ∧ Post T ρ h w σ k u ∧ r.run P w = .ok () u

/-! ### a block of cells -/
theorem cells_at (g : Good T ρ h w) {a : Ps} {c : CV} {ty : Nat} {ex lk : Bool} (e : h.get a = .cells c ty ex lk) :
    ∃ (l : Loc) (fz : Nat × Nat) (pre xs post : List Value), ρ a = some l ∧ w.heap[l.blk]? = some (.cells (pre ++ xs ++ post).toArray ty fz) ∧ pre.length = l.base ∧ AL ρ c.exp xs ∧ c.wf ∧ l.size = xs.length + post.length ∧
      (ex = true → pre = [] ∧ post = []) ∧ (lk = false → ∀ j < (pre ++ xs ++ post).length, ¬ (fz.1 ≤ j ∧ j < fz.2)) := by
  obtain ⟨l, o, hl, ho, hb⟩ := g.blk a (by unfold HP.live; rw [e]; intro h; cases h)
  rw [e] at hb
  cases hb with
  | @cells _ _ _ _ arr fz pre xs post he hp hx hw hs hex hf =>
    refine ⟨l, fz, pre, xs, post, hl, ?_, hp, hx, hw, hs, hex, ?_⟩
    · rw [ho, ← he]
    · rw [← he]; simpa using hf
theorem live_cells {a : Ps} {c : CV} {ty : Nat} {ex lk : Bool} (e : h.get a = .cells c ty ex lk) : h.live a := by unfold HP.live; rw [e]; intro h; cases h
theorem cell_in {b o : Nat} {pre xs post : List Value} {ty : Nat} {fz : Nat × Nat} (hw : w.heap[b]? = some (.cells (pre ++ xs ++ post).toArray ty fz)) (hp : pre.length = o) {j : Nat} {x : Value} (hx : xs[j]? = some x) : w.cell? ⟨b, o + j, none⟩ = some x := by
  have hj : j < xs.length := (List.getElem?_eq_some_iff.1 hx).1
  simp only [World.cell?, hw, Option.isSome_none, Bool.false_eq_true, if_false]
  rw [List.getElem?_toArray, List.append_assoc, List.getElem?_append_right (by omega), List.getElem?_append_left (by omega), show o + j - pre.length = j from by omega, hx]
theorem run_sub {b o : Nat} {pre xs post : List Value} {ty : Nat} {fz : Nat × Nat} (hw : w.heap[b]? = some (.cells (pre ++ xs ++ post).toArray ty fz)) (hp : pre.length = o) (j n : Nat) (hn : ((xs.drop j).take n).length = n) :
    (loadCells ⟨b, o + j, none⟩ n).run P w = .ok ((xs.drop j).take n).toArray w := by
  have := run_loadCells_list (P := P) w ⟨b, o + j, none⟩ ((xs.drop j).take n) (fun i v hv => by
    rw [add_mk, Nat.add_assoc]
    refine cell_in hw hp ?_
    have hi : i < n := by have := (List.getElem?_eq_some_iff.1 hv).1; omega
    rw [List.getElem?_take_of_lt hi, List.getElem?_drop] at hv
    exact hv)
  rwa [hn] at this
theorem run_storeCells' {b o : Nat} {ty : Nat} {fz : Nat × Nat} : ∀ (vs pre old post : List Value) (i : Nat) (w : World), pre.length = o + i → old.length = vs.length → w.heap[b]? = some (.cells (pre ++ old ++ post).toArray ty fz) →
    (∀ j < (pre ++ old ++ post).length, ¬ (fz.1 ≤ j ∧ j < fz.2)) → (∀ v ∈ vs, v.oneCell' = true) →
    (storeCells ⟨b, o, none⟩ vs i).run P w = .ok () { w with heap := w.heap.setIfInBounds b (.cells (pre ++ vs ++ post).toArray ty fz) }
  | [], pre, old, post, i, w, hp, ho, hw, hf, h1 => by
    have : old = [] := by simpa using ho
    subst this
    obtain ⟨hlt, he⟩ := Array.getElem?_eq_some_iff.1 hw
    show Result.ok () w = _
    congr 1
    have : w.heap.setIfInBounds b (.cells (pre ++ [] ++ post).toArray ty fz) = w.heap := by
      rw [← he, Array.setIfInBounds, dif_pos hlt]; simp
    rw [this]
  | v :: vs, pre, old, post, i, w, hp, ho, hw, hf, h1 => by
    obtain ⟨u, old', rfl⟩ : ∃ u old', old = u :: old' := by cases old with | nil => simp at ho | cons u t => exact ⟨u, t, rfl⟩
    have hc : w.cell? ⟨b, o + i, none⟩ = some u := by
      have := cell_in (w := w) (o := o + i) (pre := pre) (xs := u :: old') (post := post) hw hp (j := 0) rfl
      simpa using this
    have hfz : w.frozen? ⟨b, o + i, none⟩ = false := by
      simp only [World.frozen?, hw]
      have := hf (o + i) (by simp; omega)
      simp only [Bool.and_eq_false_imp, decide_eq_true_eq, decide_eq_false_iff_not]
      omega
    have hst : (store ((⟨b, o, none⟩ : Addr).add i) v).run P w = .ok () (w.setCell ⟨b, o + i, none⟩ v) := by
      rw [add_mk, run_store P w _ v _ (h1 v (by simp)), hc]
      simp [hfz]
    obtain ⟨hlt, he⟩ := Array.getElem?_eq_some_iff.1 hw
    have hset : w.setCell ⟨b, o + i, none⟩ v = { w with heap := w.heap.setIfInBounds b (.cells (pre ++ v :: old' ++ post).toArray ty fz) } := by
      unfold World.setCell
      congr 1
      apply Array.ext_getElem?
      intro k
      simp only [Array.getElem?_modify, Array.getElem?_setIfInBounds]
      by_cases hk : b = k
      · subst hk
        simp only [if_true, hw, hlt, Option.map_some]
        congr 2
        simp only [Option.isSome_none, Bool.false_eq_true, if_false]
        apply Array.ext'
        simp [← hp, List.set_append]
      · simp [hk]
    have ih := run_storeCells' (b := b) (o := o) (ty := ty) (fz := fz) vs (pre ++ [v]) old' post (i + 1) { w with heap := w.heap.setIfInBounds b (.cells (pre ++ v :: old' ++ post).toArray ty fz) }
      (by simp; omega) (by simpa using ho) (by simp [Array.getElem?_setIfInBounds, hlt]) (by simpa using hf) (fun x hx => h1 x (by simp [hx]))
    simp only [storeCells, Sem.run_bind, hst, Result.andThen_ok, hset, ih]
    congr 2
    simp [Array.setIfInBounds_setIfInBounds]
theorem sto_one {vs : List AV} {xs : List Value} (h : AL ρ vs xs) (hs : ∀ v ∈ vs, v.sto = true) : ∀ x ∈ xs, x.oneCell' = true := by
  induction vs generalizing xs with
  | nil => cases h; simp
  | cons v vs ih =>
    cases h with
    | cons h t =>
      intro x hx
      rcases List.mem_cons.1 hx with rfl | hx
      · have := hs v (by simp)
        cases h <;> first | rfl | (simp [AV.sto] at this)
      · exact ih t (fun u hu => hs u (by simp [hu])) x hx
theorem sto_exp {c : CV} (h : c.sto = true) : ∀ v ∈ c.exp, v.sto = true := by
  induction c with
  | nil => simp [CL.exp]
  | c v r ih =>
    have h' : bf v.sto r.sto false = true := h
    rw [bf_if] at h'
    split at h'
    · rename_i hv
      intro u hu
      rcases List.mem_cons.1 hu with rfl | hu
      · exact hv
      · exact ih h' u hu
    · cases h'
  | b n d r ih =>
    have h' : r.sto = true := h
    intro u hu
    rw [CL.exp] at hu
    rcases List.mem_append.1 hu with hu | hu
    · simp [bys, byA] at hu; obtain ⟨i, _, rfl⟩ := hu; rfl
    · exact ih h' u hu

/-- loads -/
theorem lds_ok (g : Good T ρ h w) {a : Ps} {off n : Nat} {Kc : CV → R} (hk : lds h a off n Kc = .yes) :
    ∃ c l xs, Kc c = .yes ∧ ρ a = some l ∧ AL ρ c.exp xs ∧ c.wf ∧ xs.length = n ∧ (loadCells ⟨l.blk, l.base + off, none⟩ n).run P w = .ok xs.toArray w := by
  unfold lds ldsB at hk
  split at hk
  · rename_i c ty ex lk e
    unfold ldr at hk
    obtain ⟨hn, hk⟩ := bf_yes hk
    obtain ⟨l, fz, pre, xs, post, hl, hw, hp, hx, hwf, _, _, _⟩ := cells_at g e
    have hal : AL ρ (c.sub off n).exp ((xs.drop off).take n) := by rw [exp_sub]; exact (hx.drop off).take n
    have hlen : ((xs.drop off).take n).length = n := by
      have : (c.sub off n).len = n := by simpa using hn
      rw [exp_len, hal.length] at this; exact this
    exact ⟨_, l, _, hk, hl, hal, wf_sub hwf _ _, hlen, run_sub hw hp off n hlen⟩
  · exact no_yes hk
theorem ldc_ok (g : Good T ρ h w) {a : Ps} {off : Nat} {v : AV} (hk : ldcB off (h.get a) = v) (hv : v ≠ .un) : ∃ l x, ρ a = some l ∧ VR ρ v x ∧ w.cell? ⟨l.blk, l.base + off, none⟩ = some x := by
  unfold ldcB at hk
  split at hk
  · rename_i c ty ex lk e
    obtain ⟨l, fz, pre, xs, post, hl, hw, hp, hx, hwf, _, _, _⟩ := cells_at g e
    rw [exp_nth] at hk
    cases hc : c.exp[off]? with
    | none => rw [hc] at hk; exact absurd hk.symm hv
    | some v' =>
      rw [hc] at hk
      simp at hk; subst hk
      obtain ⟨x, hx1, hx2⟩ := hx.get hc
      exact ⟨l, x, hl, hx2, cell_in hw hp hx1⟩
  · exact absurd hk.symm hv
/-- a store -/
theorem stc_ok (g : Good T ρ h w) {a : Ps} {off n : Nat} {c : CV} {Kh : HP → R} {xs : List Value} (hc : AL ρ c.exp xs) (hw : c.wf) (hk : stc h a off n c Kh = .yes) :
    ∃ l, ρ a = some l ∧ xs.length = n ∧ ∃ k u, Kh k = .yes ∧ Post T ρ h w ρ k u ∧ (storeCells ⟨l.blk, l.base + off, none⟩ xs 0).run P w = .ok () u := by
  unfold stc stcB at hk
  split at hk
  · rename_i d ty ex e
    obtain ⟨hsto, hk⟩ := bf_yes hk
    obtain ⟨hn, hk⟩ := bf_yes hk
    obtain ⟨hle, hk⟩ := bf_yes hk
    obtain ⟨l, fz, pre, ys, post, hl, hwd, hp, hy, hwf, hsz, hex, hfz⟩ := cells_at g e
    have hn : c.len = n := by simpa using hn
    have hlen : xs.length = n := by rw [exp_len, hc.length] at hn; exact hn
    have hle : off + n ≤ ys.length := by
      have : off + n ≤ d.len := by simpa using hle
      rwa [exp_len, hy.length] at this
    have hys : ys = ys.take off ++ (ys.drop off).take n ++ ys.drop (off + n) := by
      rw [List.append_assoc, ← List.drop_drop, List.take_append_drop, List.take_append_drop]
    refine ⟨l, hl, hlen, _, _, hk, Post.put (n := w.drawn) g (live_cells e) hl (b := .cells (CL.put c n d off) ty ex false) (o := .cells (pre ++ (ys.take off ++ xs ++ ys.drop (off + n)) ++ post).toArray ty fz) ?_, ?_⟩
    · refine .cells (pre := pre) (xs := ys.take off ++ xs ++ ys.drop (off + n)) (post := post) rfl hp ?_ (wf_put hw n hwf off) ?_ hex ?_
      · rw [exp_put hw n hwf off (by rw [hy.length]; omega), ← List.append_assoc]
        exact ((hy.take off).append hc).append (hy.drop _)
      · rw [hsz]; simp; omega
      · intro _ j hj
        refine hfz rfl j ?_
        simp at hj ⊢; omega
    · have := run_storeCells' (P := P) (b := l.blk) (o := l.base + off) (ty := ty) (fz := fz) xs (pre ++ ys.take off) ((ys.drop off).take n) (ys.drop (off + n) ++ post) 0 w
        (by simp; omega) (by simp; omega) (by
          rw [hwd]; congr 2
          conv => lhs; rw [hys]
          simp only [List.append_assoc]) (by
          have := hfz rfl
          rw [hys] at this
          simpa only [List.append_assoc] using this) (sto_one hc (sto_exp hsto))
      rw [this]
      congr 2
      simp only [List.append_assoc]
  · exact no_yes hk
end
end
end Ev
namespace Ev
noncomputable section
open Go
section
variable {T : Tb} {ρ : Rho} {h : HP} {w : World} {K : Kv} {P : Program}

/-! ### types -/
def szOf (P : Program) (t : TypeId) : Option Nat := (P.info? t).map (·.size)
def zrOf (P : Program) (t : TypeId) : Option Value := (P.info? t).bind (·.zero)
def TypeDesc.ag : TypeDesc → Bool
  | .struct _ => true | .array _ _ => true | _ => false
theorem run_und {t : TypeId} {d : TypeDesc} (e : P.underlying t = some d) : (underlying t).run P w = .ok d w := run_underlying e w
theorem run_info {t : TypeId} {i : TypeInfo} (e : P.info? t = some i) : (typeInfo t).run P w = .ok i w := by simp [typeInfo, e]
theorem run_size {t : TypeId} {n : Nat} (e : szOf P t = some n) : (Go.sizeOf t).run P w = .ok n w := by
  unfold szOf at e
  cases hi : P.info? t with
  | none => rw [hi] at e; cases e
  | some i => rw [hi] at e; simp at e; simp [Go.sizeOf, run_info hi, e]
theorem run_zero {t : TypeId} {v : Value} (e : zrOf P t = some v) : (zeroValue t).run P w = .ok v w := by
  unfold zrOf at e
  cases hi : P.info? t with
  | none => rw [hi] at e; cases e
  | some i => rw [hi] at e; simp at e; simp [zeroValue, run_info hi, e]
theorem run_agg {t : TypeId} {d : TypeDesc} (e : P.underlying t = some d) : (isAgg t).run P w = .ok (TypeDesc.ag d) w := by
  simp only [isAgg, Sem.run_bind, run_und e, Result.andThen_ok]
  cases d <;> rfl

/-! ### loads and stores -/
theorem okv_inv {v : AV} {Kc : AV → R} (hk : okv v Kc = .yes) : v ≠ .un ∧ Kc v = .yes := by
  unfold okv at hk
  split at hk
  · exact no_yes hk
  · rename_i hv; exact ⟨fun e => hv e, hk⟩
theorem clK_inv {v : AV} {Kc : CV → R} (hk : clK v Kc = .yes) : v ≠ .un ∧ Kc v.cl = .yes := by
  unfold clK at hk
  split at hk
  · exact no_yes hk
  · rename_i hv; exact ⟨fun e => hv e, hk⟩
theorem exp_mkc (v : AV) (r : CV) : (mkc v r).exp = v :: r.exp := by
  unfold mkc
  split
  · rename_i m
    rw [bf_if]; split
    · rename_i hm
      have hm : m ≤ 255 := by simpa using hm
      rw [exp_mkb (by omega)]
      simp only [bys, byA]
      show AV.nt .u8 (Int.ofNat (byt m 0)) :: _ = _
      rw [show byt m 0 = m from by simp [byt]; omega]; rfl
    · rfl
  · rfl
theorem wf_mkc (v : AV) {r : CV} (hr : r.wf) : (mkc v r).wf := by
  unfold mkc
  split
  · rename_i m
    rw [bf_if]; split
    · rename_i hm
      have hm : m ≤ 255 := by simpa using hm
      exact wf_mkb (by omega) hr
    · exact hr
  · exact hr
theorem cl_ag (c : CV) : (AV.ag c).cl = c := rfl
theorem cl_of {v : AV} (hv : ∀ c, v ≠ .ag c) : v.cl = mkc v .nil := by cases v <;> first | rfl | exact absurd rfl (hv _)
theorem VR.cl {v : AV} {x : Value} (hv : VR ρ v x) (hu : v ≠ .un) : AL ρ v.cl.exp x.cells.toList ∧ v.cl.wf := by
  by_cases hc : ∃ c, v = .ag c
  · obtain ⟨c, rfl⟩ := hc
    cases hv with
    | ag h hw => exact ⟨h, hw⟩
  · have hc' : ∀ c, v ≠ .ag c := fun c e => hc ⟨c, e⟩
    have hx : x.cells = #[x] := by
      cases hv <;> first | rfl | exact absurd rfl hu | exact absurd rfl (hc' _)
    rw [cl_of hc', exp_mkc, hx]
    exact ⟨.cons hv .nil, wf_mkc _ trivial⟩
theorem a_ld1 (g : Good T ρ h w) {v : AV} {x : Value} (hv : VR ρ v x) (hk : vLd1 h K v = .yes) {t : TypeId} {d : TypeDesc} (hu : P.underlying t = some d) (hd : TypeDesc.ag d = false) : AnsQ T P ρ h w K (Instr.loadAt t x) := by
  unfold vLd1 at hk
  split at hk
  · rename_i p off
    obtain ⟨hn, hk⟩ := okv_inv hk
    cases hv with
    | pt off hl =>
      obtain ⟨l, y, hl', hy, hc⟩ := ldc_ok g rfl hn
      rw [hl] at hl'; cases hl'
      refine .still g hk hy ?_
      simp only [Instr.loadAt, Instr.sureAddr, loadVar, Sem.run_bind, Sem.run_pure, Result.andThen_ok, run_agg hu, hd, Bool.false_eq_true, if_false, run_load, hc]
  · exact no_yes hk
theorem a_ldn (g : Good T ρ h w) {v : AV} {x : Value} {n : Nat} (hv : VR ρ v x) (hk : vLdn h K n v = .yes) {t : TypeId} {d : TypeDesc} (hu : P.underlying t = some d) (hd : TypeDesc.ag d = true) (hs : szOf P t = some n) : AnsQ T P ρ h w K (Instr.loadAt t x) := by
  unfold vLdn at hk
  split at hk
  · rename_i p off
    obtain ⟨c, l, xs, hk, hl', hc, hw, hlen, hr⟩ := lds_ok (P := P) g hk
    cases hv with
    | pt off hl =>
      rw [hl] at hl'; cases hl'
      refine .still g hk (.ag (xs := xs.toArray) (by simpa using hc) hw) ?_
      simp only [Instr.loadAt, Instr.sureAddr, loadVar, Sem.run_bind, Sem.run_pure, Result.andThen_ok, run_agg hu, hd, if_true, run_size hs, hr]
  · exact no_yes hk
theorem a_st (g : Good T ρ h w) {v u : AV} {x y : Value} {n : Nat} (hv : VR ρ v x) (hy : VR ρ u y) (hk : clK u (fun c => vSt h K n c v) = .yes) {t : TypeId} (hs : szOf P t = some n) :
    ∃ k w', K .un k = .yes ∧ Post T ρ h w ρ k w' ∧ (Instr.storeAt t x y).run P w = .ok () w' := by
  obtain ⟨hu, hk⟩ := clK_inv hk
  obtain ⟨hc, hw⟩ := hy.cl hu
  unfold vSt at hk
  split at hk
  · rename_i p off
    obtain ⟨l, hl', hlen, k, w', hk, hp, hr⟩ := stc_ok (P := P) g hc hw hk
    cases hv with
    | pt off hl =>
      rw [hl] at hl'; cases hl'
      refine ⟨k, w', hk, hp, ?_⟩
      have : y.cells.size = n := by simpa using hlen
      simp only [Instr.storeAt, Instr.sureAddr, storeVar, Sem.run_bind, Sem.run_pure, Result.andThen_ok, run_size hs, this, ne_eq, not_true_eq_false, if_false, hr]
  · exact no_yes hk

/-! ### new variables -/
theorem newRow_ok (g : Good T ρ h w) {c : CV} {xs : List Value} (hc : AL ρ c.exp xs) (hw : c.wf) (ty : TypeId) (ex : Bool) (n : Nat) :
    ∃ σ, Post T ρ h w σ (h.new (.cells c ty ex false)) { w with heap := w.heap.push (.cells xs.toArray ty), drawn := n } ∧ σ h.nx = some ⟨w.heap.size, 0, xs.length⟩ := by
  refine ⟨_, Post.new g (sz := xs.length) (b := .cells c ty ex false) (o := .cells xs.toArray ty) ?_ (n := n), by simp⟩
  have hle : ρ.le (fun i => if i = h.nx then some ⟨w.heap.size, 0, xs.length⟩ else ρ i) := fun i l e => by
    have : i ≠ h.nx := fun hi => by have := g.dom i l e; rw [hi] at this; omega
    simp [this, e]
  exact .cells (pre := []) (xs := xs) (post := []) (by simp) rfl (hc.mono hle) hw (by simp) (fun _ => ⟨rfl, rfl⟩) (fun _ j _ => by simp)
theorem a_alloc (g : Good T ρ h w) {z : CV} {ty : TypeId} (hk : K (.pt h.nx 0) (h.new (.cells z ty true false)) = .yes) {zv : Value} (hz : zrOf P ty = some zv) (hzr : AL ρ z.exp zv.cells.toList) (hw : z.wf) : Ans T P ρ h w K (Instr.alloc ty true (.tuple #[])) := by
  obtain ⟨σ, hp, hs⟩ := newRow_ok g hzr hw ty true w.drawn
  refine ⟨_, _, σ, _, .pointer (some ⟨w.heap.size, 0, none⟩), hk, hp, by have := VR.pt (ρ := σ) 0 hs; simpa using this, ?_⟩
  simp [Instr.alloc, run_zero hz, newVar, newRow]
theorem a_box (g : Good T ρ h w) {v : AV} {x : Value} {ty : TypeId} (hv : VR ρ v x) (hk : clK v (fun c => K (.pt h.nx 0) (h.new (.cells c ty true false))) = .yes) : Ans T P ρ h w K (Instr.box ty x) := by
  obtain ⟨hu, hk⟩ := clK_inv hk
  obtain ⟨hc, hw⟩ := hv.cl hu
  obtain ⟨σ, hp, hs⟩ := newRow_ok g hc hw ty true w.drawn
  refine ⟨_, _, σ, _, .pointer (some ⟨w.heap.size, 0, none⟩), hk, hp, by have := VR.pt (ρ := σ) 0 hs; simpa using this, ?_⟩
  simp [Instr.box, newVar, newRow]

/-! ### built values -/
/-- parts, as the evaluator has them, and as the model has them -/
inductive PL (ρ : Rho) (l : LS) (e : Tr AV) (place : Nat → Option (Nat × Nat)) : Pt → List (Nat × Value) → Prop
  | nil : PL ρ l e place [] []
  | cons {off n i : Nat} {x : EO} {y : Value} {ps : Pt} {qs : List (Nat × Value)} (hp : place i = some (off, n)) (hv : VR ρ (rd l e x) y) (t : PL ρ l e place ps qs) : PL ρ l e place ((off, n, x) :: ps) ((i, y) :: qs)
theorem foldl_set (xs : List Value) : ∀ (cs : Array Value) (off k : Nat), off + k + xs.length ≤ cs.size → (xs.zipIdx k).foldl (fun cs (c, j) => cs.setIfInBounds (off + j) c) cs = (cs.toList.take (off + k) ++ xs ++ cs.toList.drop (off + k + xs.length)).toArray := by
  induction xs with
  | nil => intro cs off k _; simp
  | cons x xs ih =>
    intro cs off k hle
    simp only [List.zipIdx_cons, List.foldl_cons]
    rw [ih _ off (k + 1) (by simp at hle ⊢; omega)]
    apply Array.ext'
    simp only [Array.toList_setIfInBounds, List.length_cons]
    simp at hle
    obtain ⟨A, u, B, hAB, hA⟩ : ∃ A u B, cs.toList = A ++ u :: B ∧ A.length = off + k := by
      refine ⟨cs.toList.take (off + k), cs.toList[off + k]'(by simp; omega), cs.toList.drop (off + k + 1), ?_, by simp; omega⟩
      rw [← List.drop_eq_getElem_cons, List.take_append_drop]
    rw [hAB, ← hA, show off + (k + 1) = A.length + 1 from by omega, show A.length + (xs.length + 1) = A.length + 1 + xs.length from by omega]
    simp [List.set_append, List.take_append, List.drop_append, show A.length + 1 + xs.length - A.length = xs.length + 1 from by omega, List.take_of_length_le (show A.length ≤ A.length + 1 by omega)]
theorem fill_ok {l : LS} {e : Tr AV} {place : Nat → Option (Nat × Nat)} {Kc : CV → R} : ∀ {ps : Pt} {qs : List (Nat × Value)} {z : CV} {zs : Array Value}, PL ρ l e place ps qs → AL ρ z.exp zs.toList → z.wf → fill l e Kc ps z = .yes →
    ∃ c cs, Kc c = .yes ∧ AL ρ c.exp cs.toList ∧ c.wf ∧ c.exp.length = z.exp.length ∧ Instr.fill place zs qs = some cs
  | _, _, z, zs, .nil, hz, hw, hk => ⟨z, zs, hk, hz, hw, rfl, rfl⟩
  | _, _, z, zs, @PL.cons _ _ _ _ off n i x y ps qs hp hv t, hz, hw, hk => by
    unfold fill at hk
    obtain ⟨hu, hk⟩ := clK_inv hk
    obtain ⟨hn, hk⟩ := bf_yes hk
    obtain ⟨hle, hk⟩ := bf_yes hk
    obtain ⟨hc, hcw⟩ := hv.cl hu
    have hn : y.cells.size = n := by have : (rd l e x).cl.len = n := by simpa using hn
                                     rw [exp_len, hc.length] at this; simpa using this
    have hle : off + n ≤ zs.size := by have : off + n ≤ z.len := by simpa using hle
                                       rw [exp_len, hz.length] at this; simpa using this
    have hz' : AL ρ (CL.put (rd l e x).cl n z off).exp (zs.toList.take off ++ y.cells.toList ++ zs.toList.drop (off + n)) := by
      rw [exp_put hcw n hw off (by rw [hz.length]; simpa using hle), ← List.append_assoc]
      exact ((hz.take off).append hc).append (hz.drop _)
    obtain ⟨c, cs, hk, hcs, hcw', hlen, hf⟩ := fill_ok (zs := (zs.toList.take off ++ y.cells.toList ++ zs.toList.drop (off + n)).toArray) t (by simpa using hz') (wf_put hcw n hw off) hk
    refine ⟨c, cs, hk, hcs, hcw', ?_, ?_⟩
    · rw [hlen, hz'.length, hz.length]; simp; omega
    · rw [Instr.fill, hp]
      simp only [hn, ne_eq, not_true_eq_false, decide_false, Bool.false_or, Bool.or_false, decide_eq_true_eq]
      have hgt : ¬ (off + n > zs.size) := by omega
      have hz2 := foldl_set y.cells.toList zs off 0 (by simp; omega)
      have e : (y.cells.zipIdx.foldl (fun cs (c, j) => cs.setIfInBounds (off + j) c) zs) = (zs.toList.take off ++ y.cells.toList ++ zs.toList.drop (off + n)).toArray := by
        rw [← Array.foldl_toList, Array.toList_zipIdx, hz2]
        simp [hn]
      rw [e]
      simpa [hgt] using hf
end
end
end Ev
namespace Ev
noncomputable section
open Go

theorem wrap_of_le {k : IntKind} {m : Nat} (h : m ≤ mx k) : k.wrap (Int.ofNat m) = Int.ofNat m := by
  cases k <;> simp [mx] at h <;> simp [IntKind.wrap, IntKind.bits, IntKind.signed] <;> omega
theorem wr_eq (k : IntKind) (z : Int) : wr k z = k.wrap z := by
  cases z with
  | ofNat m =>
    show bf (Nat.ble m (mx k)) _ _ = _
    rw [bf_if]; split
    · rename_i h; exact (wrap_of_le (by simpa using h)).symm
    · rfl
  | negSucc m => rfl
theorem iadd_eq (a b : Int) : iadd a b = a + b := by cases a <;> cases b <;> rfl
theorem isub_eq (a b : Int) : isub a b = a - b := by
  cases a with
  | ofNat m =>
    cases b with
    | ofNat n =>
      show bf (Nat.ble n m) _ _ = _
      rw [bf_if]; split
      · rename_i h; have : n ≤ m := by simpa using h
        show Int.ofNat (m - n) = _; simp; omega
      · rename_i h; have : m < n := by simpa using h
        show Int.negSucc (Nat.pred (n - m)) = _; simp [Int.negSucc_eq]; omega
    | negSucc n => rfl
  | negSucc m => rfl
theorem ilt_eq (a b : Int) : ilt a b = decide (a < b) := by
  cases a with
  | ofNat m =>
    cases b with
    | ofNat n => show Nat.ble (m + 1) n = _; rw [Bool.eq_iff_iff]; simp; omega
    | negSucc n => show false = _; simp [Int.negSucc_eq]; omega
  | negSucc m =>
    cases b with
    | ofNat n => show true = _; simp [Int.negSucc_eq]; omega
    | negSucc n => show Nat.ble (n + 1) m = _; rw [Bool.eq_iff_iff]; simp [Int.negSucc_eq]; omega
theorem kkE_iff {a b : IntKind} : kkE a b = true ↔ a = b := by cases a <;> cases b <;> simp [kkE]
theorem iEq_eq (a b : Int) : iEq a b = (a == b) := by
  cases a <;> cases b <;> rw [Bool.eq_iff_iff]
  · show Nat.beq _ _ = true ↔ _; simp <;> omega
  · show false = true ↔ _; simp <;> omega
  · show false = true ↔ _; simp <;> omega
  · show Nat.beq _ _ = true ↔ _; simp <;> omega
theorem bool_eq (a b : Bool) : bf a b (bf b false true) = (a == b) := by cases a <;> cases b <;> rfl
theorem bool_not (b : Bool) : bf b false true = !b := by cases b <;> rfl
theorem ints_inv {f : IntKind → Int → Int → Option AV} {x y v : AV} (h : ints f x y = some v) : ∃ k a b, x = .nt k a ∧ y = .nt k b ∧ f k a b = some v := by
  unfold ints at h
  split at h
  · rename_i k a j b
    rw [bf_if] at h; split at h
    · rename_i hk; rw [kkE_iff] at hk; subst hk; exact ⟨_, _, _, rfl, rfl, h⟩
    · cases h
  · cases h
theorem mx_lt (k : IntKind) : mx k < 2 ^ k.bits := by cases k <;> simp [mx, IntKind.bits]
/-- numbers up to mx are those below a power of two -/
theorem mx_pow (k : IntKind) : ∃ m, mx k + 1 = 2 ^ m := by
  cases k
  · exact ⟨7, rfl⟩
  · exact ⟨15, rfl⟩
  · exact ⟨31, rfl⟩
  · exact ⟨63, rfl⟩
  · exact ⟨8, rfl⟩
  · exact ⟨16, rfl⟩
  · exact ⟨32, rfl⟩
  · exact ⟨64, rfl⟩
theorem nats_inv {f : Nat → Nat → Nat} {k : IntKind} {x y : Int} {v : AV} (h : nats f k x y = some v) : ∃ a b, x = .ofNat a ∧ y = .ofNat b ∧ a ≤ mx k ∧ b ≤ mx k ∧ v = .nt k (.ofNat (f a b)) := by
  unfold nats at h
  split at h
  · rename_i a b
    rw [bf_if] at h; split at h
    · rw [bf_if] at h; split at h
      · rename_i h1 h2
        cases h
        exact ⟨_, _, rfl, rfl, by simpa using h1, by simpa using h2, rfl⟩
      · cases h
    · cases h
  · cases h
section
variable {P : Program} {w : World}
theorem run_bits {op : BinOp} {f : Nat → Nat → Nat} {k : IntKind} {a b : Nat} (ha : a ≤ mx k) (hb : b ≤ mx k) (hf : f a b ≤ mx k)
    (hop : ∀ (x y : Int), (Op.intBits op k x y) = pure (.int k (k.wrap ((f (BitVec.ofInt k.bits x).toNat (BitVec.ofInt k.bits y).toNat : Nat) : Int)))) :
    (Op.intBits op k (Int.ofNat a) (Int.ofNat b)).run P w = .ok (.int k (Int.ofNat (f a b))) w := by
  have hx := mx_lt k
  have e : ∀ n : Nat, n ≤ mx k → (BitVec.ofInt k.bits (Int.ofNat n)).toNat = n := fun n hn => by
    simp only [Int.ofNat_eq_natCast, BitVec.ofInt_natCast, BitVec.toNat_ofNat]
    exact Nat.mod_eq_of_lt (by omega)
  rw [hop, e a ha, e b hb]
  have := wrap_of_le hf
  simp only [Sem.run_pure]
  rw [← Int.ofNat_eq_natCast, this]
theorem bits_le {f : Nat → Nat → Nat} {k : IntKind} (hf : ∀ n a b, a < 2 ^ n → b < 2 ^ n → f a b < 2 ^ n) {a b : Nat} (ha : a ≤ mx k) (hb : b ≤ mx k) : f a b ≤ mx k := by
  obtain ⟨m, hm⟩ := mx_pow k
  have := hf m a b (by omega) (by omega)
  omega

/-! ### strings -/
theorem strOf_size (n d : Nat) : (strOf n d).size = n := by simp [strOf, ByteArray.size]
theorem strOf_data (n d : Nat) : (strOf n d).data.toList = (List.range n).map fun i => UInt8.ofNat (byt d i) := by simp [strOf]
theorem byt_toNat (d i : Nat) : (UInt8.ofNat (byt d i)).toNat = byt d i := by
  simp; have := byt_lt d i; omega
theorem strOf_inj {n m a b : Nat} (ha : a < 256 ^ n) (hb : b < 256 ^ m) : strOf n a = strOf m b ↔ n = m ∧ a = b := by
  constructor
  · intro h
    have hn : n = m := by rw [← strOf_size n a, h, strOf_size]
    subst hn
    refine ⟨rfl, byt_ext ha hb fun i hi => ?_⟩
    have h1 : (strOf n a).data.toList[i]? = (strOf n b).data.toList[i]? := by rw [h]
    rw [strOf_data, strOf_data] at h1
    simp [hi] at h1
    have := congrArg UInt8.toNat h1
    rwa [byt_toNat, byt_toNat] at this
  · rintro ⟨rfl, rfl⟩; rfl
theorem strOf_append {n m a b : Nat} (ha : a < 256 ^ n) : strOf n a ++ strOf m b = strOf (n + m) (Nat.add a (shl b n)) := by
  apply ByteArray.ext
  apply Array.ext'
  rw [ByteArray.data_append, Array.toList_append, strOf_data, strOf_data, strOf_data, List.range_add, List.map_append, List.map_map]
  congr 1
  · apply List.map_congr_left; intro i hi; simp at hi; rw [byt_add_low ha hi]
  · apply List.map_congr_left; intro i hi; show _ = UInt8.ofNat (byt _ (n + i)); rw [byt_add_high ha]
theorem strOf_extract {n d l m : Nat} (hm : m ≤ n) (hl : l ≤ m) : (strOf n d).extract l m = strOf (m - l) (low (shr d l) (m - l)) := by
  apply ByteArray.ext
  apply Array.ext'
  rw [ByteArray.data_extract, Array.toList_extract, strOf_data, strOf_data]
  apply List.ext_getElem?
  intro i
  by_cases hi : i < m - l
  · simp [List.getElem?_take, List.getElem?_drop, hi, show l + i < n from by omega, byt_low hi, byt_shr]
  · simp [List.getElem?_take, hi]
theorem strOf_get {n d i : Nat} (hi : i < n) : (strOf n d)[i]? = some (UInt8.ofNat (byt d i)) := by
  have h : i < (strOf n d).size := by rw [strOf_size]; exact hi
  rw [getElem?_pos (strOf n d) i h]
  congr 1
  show (strOf n d).data[i] = _
  simp [strOf]
end
end
end Ev
namespace Ev
noncomputable section
open Go
section
variable {T : Tb} {ρ : Rho} {h : HP} {w : World} {K : Kv} {P : Program}

theorem oko_inv {o : Option AV} (hk : oko h K o = .yes) : ∃ v, o = some v ∧ K v h = .yes := by
  unfold oko at hk
  split at hk
  · exact no_yes hk
  · exact ⟨_, rfl, hk⟩
theorem bBo_inv {o : Option Bool} {v : AV} (e : bBo o = some v) : ∃ b, o = some b ∧ v = .bo b := by
  cases o with
  | none => cases e
  | some b => cases e; exact ⟨b, rfl, rfl⟩
theorem bNo_inv {o : Option Bool} {v : AV} (e : bNo o = some v) : ∃ b, o = some b ∧ v = .bo (!b) := by
  cases o with
  | none => cases e
  | some b => cases e; exact ⟨b, rfl, by rw [bool_not]⟩
def isEq : BinOp → Bool
  | .eql => true | .neq => true | _ => false
theorem guard_no {op : BinOp} {t : TypeId} {xo yo : Operand} {x y : Value} (ho : isEq op = false) : (do eqGuard op t xo yo x y; binOp op t x y : Sem Value).run P w = (binOp op t x y).run P w := by
  cases op <;> first | (simp [eqGuard]; done) | (simp [isEq] at ho)
/-- arithmetic, comparisons of numbers -/
theorem run_bin_int {op : BinOp} {t : TypeId} {k : IntKind} {a b : Int} (ho : op ≠ .shl) (ho' : op ≠ .shr) : (binOp op t (.int k a) (.int k b)) = match op with
    | .add | .sub | .mul => Op.intArith op k a b
    | .quo | .rem => Op.intDiv op k a b
    | .and | .or | .xor | .andNot => Op.intBits op k a b
    | _ => Op.intCmp op a b := by
  cases op <;> first | (exact absurd rfl ho) | (exact absurd rfl ho') | (simp [binOp])
theorem lst_lt {n a m b : Nat} : slt n a m b = Op.bytesLess ((List.range n).map fun i => UInt8.ofNat (byt a i)) ((List.range m).map fun i => UInt8.ofNat (byt b i)) := by
  induction m generalizing n a b with
  | zero => cases n <;> simp [slt, Op.bytesLess]
  | succ m ih =>
    cases n with
    | zero => simp [slt, Op.bytesLess, List.range_succ_eq_map]
    | succ n =>
      rw [slt, List.range_succ_eq_map, List.range_succ_eq_map]
      simp only [List.map_cons, Op.bytesLess, List.map_map]
      have e : ∀ (c i : Nat), byt c (i + 1) = byt (Nat.div c 256) i := fun c i => by
        show c / 256 ^ (i + 1) % 256 = c / 256 / 256 ^ i % 256
        rw [Nat.pow_succ, Nat.mul_comm, Nat.div_div_eq_div_mul]
      have e2 : ∀ c n, ((List.range n).map ((fun i => UInt8.ofNat (byt c i)) ∘ Nat.succ)) = (List.range n).map fun i => UInt8.ofNat (byt (Nat.div c 256) i) := fun c n => by
        apply List.map_congr_left; intro i _; simp [e]
      rw [e2, e2, ← ih]
      have h0 : ∀ c, byt c 0 = c % 256 := fun c => by simp [byt]
      rw [h0, h0]
      have ha : a % 256 < 256 := Nat.mod_lt _ (by omega)
      have hb : b % 256 < 256 := Nat.mod_lt _ (by omega)
      show bf (Nat.ble (a % 256 + 1) (b % 256)) true (bf (Nat.beq (a % 256) (b % 256)) _ false) = _
      rw [bf_if, bf_if]
      have l1 : (UInt8.ofNat (a % 256) < UInt8.ofNat (b % 256)) ↔ a % 256 < b % 256 := by
        rw [UInt8.lt_iff_toNat_lt]; simp
      have l2 : (UInt8.ofNat (a % 256) = UInt8.ofNat (b % 256)) ↔ a % 256 = b % 256 := by
        rw [← UInt8.toNat_inj]; simp
      by_cases h1 : a % 256 < b % 256
      · simp [l1, h1]; omega
      · by_cases h2 : a % 256 = b % 256
        · have : ¬ (a % 256 + 1 ≤ b % 256) := by omega
          simp [l1, l2, h1, h2]; intro h3; omega
        · have : ¬ (a % 256 + 1 ≤ b % 256) := by omega
          simp [l1, l2, h1, h2, this]
theorem bytes_toList (s : ByteArray) : s.toList = s.data.toList := by
  exact ByteArray.toList_eq s
theorem a_add (g : Good T ρ h w) {v u : AV} {x y : Value} (hv : VR ρ v x) (hu : VR ρ u y) (hk : oko h K (bAdd v u) = .yes) {t : TypeId} {xo yo : Operand} : AnsQ T P ρ h w K (do eqGuard .add t xo yo x y; binOp .add t x y) := by
  obtain ⟨z, hz, hk⟩ := oko_inv hk
  unfold bAdd at hz
  split at hz
  · rename_i k a j b
    rw [bf_if] at hz; split at hz
    · rename_i hkj; rw [kkE_iff] at hkj; subst hkj; cases hz
      cases hv; cases hu
      refine .still g hk (.nt _ _) ?_
      rw [guard_no rfl, run_bin_int (by simp) (by simp), wr_eq, iadd_eq]; rfl
    · cases hz
  · rename_i n a m b
    rw [bf_if] at hz; split at hz
    · rename_i hle; cases hz
      have hle : n + m ≤ 0x7fffffffffffffff := by simpa using hle
      cases hv with
      | st _ _ ha =>
        cases hu with
        | st _ _ hb =>
          refine .still g hk (.st _ _ (add_lt ha hb)) ?_
          rw [guard_no rfl]
          simp only [binOp, Op.stringOp, strOf_size]
          rw [if_neg (by simp [IntKind.max, IntKind.signed, IntKind.bits]; omega), strOf_append ha]; rfl
    · cases hz
  · cases hz
theorem a_lt (g : Good T ρ h w) {v u : AV} {x y : Value} (hv : VR ρ v x) (hu : VR ρ u y) {b : Bool} (hz : vlt v u = some b) {t : TypeId} : 
    (binOp .lss t x y).run P w = .ok (.bool b) w ∧ (binOp .geq t x y).run P w = .ok (.bool (!b)) w ∧ (binOp .gtr t y x).run P w = .ok (.bool b) w ∧ (binOp .leq t y x).run P w = .ok (.bool (!b)) w := by
  unfold vlt at hz
  split at hz
  · rename_i k a j b'
    rw [bf_if] at hz; split at hz
    · rename_i hkj; rw [kkE_iff] at hkj; subst hkj; cases hz
      cases hv; cases hu
      rw [ilt_eq]
      refine ⟨?_, ?_, ?_, ?_⟩ <;> (rw [run_bin_int (by simp) (by simp)]; simp only [Op.intCmp, Sem.run_pure]) <;> (try congr 2)
      · by_cases hh : a < b' <;> simp [hh] <;> omega
      · by_cases hh : a < b' <;> simp [hh] <;> omega
    · cases hz
  · rename_i n a m b'
    cases hz
    cases hv with
    | st _ _ ha =>
      cases hu with
      | st _ _ hb =>
        have e1 := lst_lt (n := n) (a := a) (m := m) (b := b')
        have e2 : ∀ {p q : List UInt8}, Op.bytesLess p q = true → (p == q) = false ∧ Op.bytesLess q p = false := by
          intro p
          induction p with
          | nil => intro q hh; cases q with | nil => cases hh | cons c q => exact ⟨rfl, rfl⟩
          | cons c p ih =>
            intro q hh
            cases q with
            | nil => cases hh
            | cons d q =>
              simp only [Op.bytesLess, Bool.or_eq_true, decide_eq_true_eq, Bool.and_eq_true, beq_iff_eq] at hh
              rcases hh with hh | ⟨rfl, hh⟩
              · have h1 : c ≠ d := by rintro rfl; exact absurd hh (by simp)
                have h2 : ¬ d < c := by rw [UInt8.lt_iff_toNat_lt] at hh ⊢; omega
                exact ⟨by simp [h1], by simp [Op.bytesLess, h2]; intro e; exact absurd e.symm h1⟩
              · obtain ⟨h1, h2⟩ := ih hh
                exact ⟨by simpa using h1, by simp [Op.bytesLess, h2]⟩
        have e3 : ∀ {p q : List UInt8}, Op.bytesLess p q = false → (Op.bytesLess q p || q == p) = true := by
          intro p
          induction p with
          | nil => intro q hh; cases q with | nil => rfl | cons c q => cases hh
          | cons c p ih =>
            intro q hh
            cases q with
            | nil => rfl
            | cons d q =>
              simp only [Op.bytesLess, Bool.or_eq_false_iff, decide_eq_false_iff_not] at hh
              by_cases hcd : c = d
              · subst hcd
                have := ih (q := q) (by simpa using hh.2)
                simp only [Op.bytesLess, beq_self_eq_true, Bool.true_and, Bool.or_eq_true, beq_iff_eq] at this ⊢
                rcases this with h1 | h1
                · exact .inl (.inr h1)
                · exact .inr (by rw [h1])
              · have h1 : d < c := by
                  have := hh.1
                  have h3 : c.toNat ≠ d.toNat := fun e => hcd (UInt8.toNat_inj.1 e)
                  rw [UInt8.lt_iff_toNat_lt] at this ⊢; omega
                simp [Op.bytesLess, h1]
        simp only [binOp, Op.stringOp, bytes_toList, strOf_data, ← e1, Sem.run_pure]
        refine ⟨trivial, trivial, ?_, ?_⟩
        · cases hs : slt n a m b' with
          | true =>
            rw [e1] at hs
            obtain ⟨h1, h2⟩ := e2 hs
            have h3 : (((List.range m).map fun i => UInt8.ofNat (byt b' i)) == ((List.range n).map fun i => UInt8.ofNat (byt a i))) = false := by
              rw [Bool.eq_false_iff] at h1 ⊢; intro h4; apply h1; simp at h4 ⊢; exact h4.symm
            rw [h2, h3]; rfl
          | false =>
            rw [e1] at hs
            have := e3 hs
            rw [this]; rfl
        · cases hs : slt n a m b' with
          | true =>
            rw [e1] at hs
            obtain ⟨h1, h2⟩ := e2 hs
            have h3 : (((List.range m).map fun i => UInt8.ofNat (byt b' i)) == ((List.range n).map fun i => UInt8.ofNat (byt a i))) = false := by
              rw [Bool.eq_false_iff] at h1 ⊢; intro h4; apply h1; simp at h4 ⊢; exact h4.symm
            rw [h2, h3]; rfl
          | false =>
            rw [e1] at hs
            have := e3 hs
            rw [this]; rfl
  · cases hz
end
end
end Ev
namespace Ev
noncomputable section
open Go
section
variable {T : Tb} {ρ : Rho} {h : HP} {w : World} {K : Kv} {P : Program}

theorem bNg_inv {neg : Bool} {o : Option Bool} {v : AV} (e : bNg neg o = some v) : ∃ b, o = some b ∧ v = .bo (if neg then !b else b) := by
  cases o with
  | none => cases e
  | some b => cases e; refine ⟨b, rfl, ?_⟩; cases neg <;> cases b <;> rfl
def eqOp (neg : Bool) : BinOp := if neg then .neq else .eql
/-- the answer of == gives that of both -/
theorem eq_of (g : Good T ρ h w) {b neg : Bool} {t : TypeId} {xo yo : Operand} {x y : Value} (hk : K (.bo (if neg then !b else b)) h = .yes)
    (hg : (eqGuard (eqOp neg) t xo yo x y).run P w = .ok () w) (he : (binOp .eql t x y).run P w = .ok (.bool b) w) (hn : (binOp .neq t x y).run P w = .ok (.bool (!b)) w) :
    AnsQ T P ρ h w K (do eqGuard (eqOp neg) t xo yo x y; binOp (eqOp neg) t x y) := by
  refine .still g hk (.bo _) ?_
  rw [Sem.run_bind, hg, Result.andThen_ok]
  cases neg
  · exact he
  · exact hn
theorem guard_plain {neg : Bool} {t : TypeId} {xo yo : Operand} {x y : Value} (hx : ∀ cs, x ≠ .agg cs) (hx' : x ≠ .nilIface) : (eqGuard (eqOp neg) t xo yo x y).run P w = .ok () w := by
  have e : ∀ op : BinOp, op = .eql ∨ op = .neq → (eqGuard op t xo yo x y).run P w = .ok () w := by
    rintro op (rfl | rfl)
    all_goals
      unfold eqGuard
      simp only [Bool.not_true, Bool.false_eq_true, if_false]
      cases x <;> first | (exact absurd rfl (hx _)) | (exact absurd rfl hx') | rfl | (cases y <;> rfl)
  cases neg
  · exact e _ (.inl rfl)
  · exact e _ (.inr rfl)
theorem guard_nil {neg : Bool} {t : TypeId} {xo yo : Operand} {y : Value} (hc : ((match xo with | .const _ => true | _ => false) || (match yo with | .const _ => true | _ => false)) = true) : (eqGuard (eqOp neg) t xo yo .nilIface y).run P w = .ok () w := by
  have e : ∀ op : BinOp, op = .eql ∨ op = .neq → (eqGuard op t xo yo .nilIface y).run P w = .ok () w := by
    rintro op (rfl | rfl)
    all_goals
      unfold eqGuard
      simp only [Bool.not_true, Bool.false_eq_true, if_false]
      cases y <;> first | rfl | skip
      rw [if_pos (by exact hc)]; rfl
  cases neg
  · exact e _ (.inl rfl)
  · exact e _ (.inr rfl)
theorem a_eqI (g : Good T ρ h w) {v u : AV} {x y : Value} (hv : VR ρ v x) (hu : VR ρ u y) {neg : Bool} (hk : oko h K (bNg neg (eqI v u)) = .yes) {t : TypeId} {xo yo : Operand} :
    AnsQ T P ρ h w K (do eqGuard (eqOp neg) t xo yo x y; binOp (eqOp neg) t x y) := by
  obtain ⟨z, hz, hk⟩ := oko_inv hk
  obtain ⟨b, hb, rfl⟩ := bNg_inv hz
  unfold eqI at hb
  split at hb
  · rename_i k a j c
    rw [bf_if] at hb; split at hb
    · rename_i hkj; rw [kkE_iff] at hkj; subst hkj
      cases hb; cases hv; cases hu
      refine eq_of g hk (guard_plain (by simp) (by simp)) ?_ ?_ <;> (rw [run_bin_int (by simp) (by simp)]; simp only [Op.intCmp, Sem.run_pure, iEq_eq]; try rfl)
    · cases hb
  · rename_i n a m c
    cases hb
    cases hv with
    | st _ _ ha =>
      cases hu with
      | st _ _ hc =>
        have e : (bf (Nat.beq n m) (Nat.beq a c) false) = ((strOf n a).toList == (strOf m c).toList) := by
          rw [bytes_toList, bytes_toList, Bool.eq_iff_iff, bf_if]
          have e1 : ((strOf n a).data.toList == (strOf m c).data.toList) = true ↔ strOf n a = strOf m c := by
            simp only [beq_iff_eq]
            exact ⟨fun hh => ByteArray.ext (Array.ext' hh), fun hh => by rw [hh]⟩
          rw [e1, strOf_inj ha hc]
          by_cases h1 : n = m
          · subst h1; simp
          · simp [h1]
        refine eq_of g hk (guard_plain (by simp) (by simp)) ?_ ?_ <;> simp only [binOp, Op.stringOp, e, Sem.run_pure]
  · cases hb
theorem run_eq2 {t : TypeId} {x y : Value} {b : Bool} (he : (Op.equal t x y).run P w = .ok b w) (h1 : ∀ k n, x ≠ .int k n) (h2 : ∀ k n, x ≠ .float k n) (h3 : ∀ k a b, x ≠ .complex k a b) (h4 : ∀ s, x ≠ .string s) :
    (binOp .eql t x y).run P w = .ok (.bool b) w ∧ (binOp .neq t x y).run P w = .ok (.bool (!b)) w := by
  have e1 : binOp .eql t x y = (do pure (.bool (← Op.equal t x y))) := by
    cases x <;> first | (exact absurd rfl (h1 _ _)) | (exact absurd rfl (h2 _ _)) | (exact absurd rfl (h3 _ _ _)) | (exact absurd rfl (h4 _)) | (simp [binOp])
  have e2 : binOp .neq t x y = (do pure (.bool (!(← Op.equal t x y)))) := by
    cases x <;> first | (exact absurd rfl (h1 _ _)) | (exact absurd rfl (h2 _ _)) | (exact absurd rfl (h3 _ _ _)) | (exact absurd rfl (h4 _)) | (simp [binOp])
  rw [e1, e2]
  simp [he]
theorem md : ∃ n, Op.maxDepth = n + 1 := ⟨_, rfl⟩
/-- == where the model looks at the values alone -/
theorem a_eqX (g : Good T ρ h w) {x y : Value} {b neg : Bool} (hk : K (.bo (if neg then !b else b)) h = .yes) {t : TypeId} {xo yo : Operand} (he : (Op.equal t x y).run P w = .ok b w)
    (h1 : ∀ k n, x ≠ .int k n) (h2 : ∀ k n, x ≠ .float k n) (h3 : ∀ k a b, x ≠ .complex k a b) (h4 : ∀ s, x ≠ .string s) (hx : ∀ cs, x ≠ .agg cs) (hx' : x ≠ .nilIface) :
    AnsQ T P ρ h w K (do eqGuard (eqOp neg) t xo yo x y; binOp (eqOp neg) t x y) :=
  eq_of g hk (guard_plain hx hx') (run_eq2 he h1 h2 h3 h4).1 (run_eq2 he h1 h2 h3 h4).2
theorem a_eqB (g : Good T ρ h w) {v u : AV} {x y : Value} (hv : VR ρ v x) (hu : VR ρ u y) {neg : Bool} (hk : oko h K (bNg neg (eqB v u)) = .yes) {t : TypeId} {xo yo : Operand} (ht : P.underlying t = some .bool) :
    AnsQ T P ρ h w K (do eqGuard (eqOp neg) t xo yo x y; binOp (eqOp neg) t x y) := by
  obtain ⟨z, hz, hk⟩ := oko_inv hk
  obtain ⟨b, hb, rfl⟩ := bNg_inv hz
  unfold eqB at hb
  split at hb
  · cases hb; cases hv; cases hu
    refine a_eqX g hk ?_ (by simp) (by simp) (by simp) (by simp) (by simp) (by simp)
    rw [bool_eq]
    obtain ⟨n, hn⟩ := md
    simp [Op.equal, hn, Op.equalIn, run_und ht]
  · cases hb
theorem a_eqP (g : Good T ρ h w) {v u : AV} {x y : Value} (hv : VR ρ v x) (hu : VR ρ u y) {neg : Bool} (hk : oko h K (bNg neg (eqP v u)) = .yes) {t e : TypeId} {xo yo : Operand} {n : Nat} (ht : P.underlying t = some (.pointer e)) (hs : szOf P e = some n) (hn : n ≠ 0) :
    AnsQ T P ρ h w K (do eqGuard (eqOp neg) t xo yo x y; binOp (eqOp neg) t x y) := by
  obtain ⟨z, hz, hk⟩ := oko_inv hk
  obtain ⟨b, hb, rfl⟩ := bNg_inv hz
  obtain ⟨d, hd⟩ := md
  unfold eqP at hb
  split at hb
  · cases hb; cases hv; cases hu
    exact a_eqX g hk (by simp [Op.equal, hd, Op.equalIn, run_und ht]) (by simp) (by simp) (by simp) (by simp) (by simp) (by simp)
  · cases hb; cases hv; cases hu
    exact a_eqX g hk (by simp [Op.equal, hd, Op.equalIn, run_und ht]) (by simp) (by simp) (by simp) (by simp) (by simp) (by simp)
  · cases hb; cases hv; cases hu
    exact a_eqX g hk (by simp [Op.equal, hd, Op.equalIn, run_und ht]) (by simp) (by simp) (by simp) (by simp) (by simp) (by simp)
  · rename_i a i c j
    rw [bf_if] at hb; split at hb
    · rename_i hac; rw [Ps.eqN_iff] at hac; subst hac
      cases hb
      cases hv with
      | pt _ h1 =>
        cases hu with
        | pt _ h2 =>
          rw [h1] at h2; cases h2
          refine a_eqX g hk ?_ (by simp) (by simp) (by simp) (by simp) (by simp) (by simp)
          simp [Op.equal, hd, Op.equalIn, run_und ht, run_size hs, hn, sameAddr]
          rw [Bool.eq_iff_iff]; simp
    · cases hb
  · cases hb
theorem a_eqL (g : Good T ρ h w) {v u : AV} {x y : Value} (hv : VR ρ v x) (hu : VR ρ u y) {neg : Bool} (hk : oko h K (bNg neg (eqL v u)) = .yes) {t e : TypeId} {xo yo : Operand} (ht : P.underlying t = some (.slice e)) :
    AnsQ T P ρ h w K (do eqGuard (eqOp neg) t xo yo x y; binOp (eqOp neg) t x y) := by
  obtain ⟨z, hz, hk⟩ := oko_inv hk
  obtain ⟨b, hb, rfl⟩ := bNg_inv hz
  obtain ⟨d, hd⟩ := md
  unfold eqL at hb
  split at hb <;> first | (cases hb; done) | (cases hb; cases hv; cases hu; exact a_eqX g hk (by simp [Op.equal, hd, Op.equalIn, run_und ht]) (by simp) (by simp) (by simp) (by simp) (by simp) (by simp))
theorem a_eqM (g : Good T ρ h w) {v u : AV} {x y : Value} (hv : VR ρ v x) (hu : VR ρ u y) {neg : Bool} (hk : oko h K (bNg neg (eqM v u)) = .yes) {t e f : TypeId} {xo yo : Operand} (ht : P.underlying t = some (.map e f)) :
    AnsQ T P ρ h w K (do eqGuard (eqOp neg) t xo yo x y; binOp (eqOp neg) t x y) := by
  obtain ⟨z, hz, hk⟩ := oko_inv hk
  obtain ⟨b, hb, rfl⟩ := bNg_inv hz
  obtain ⟨d, hd⟩ := md
  unfold eqM at hb
  split at hb <;> first | (cases hb; done) | (cases hb; cases hv; cases hu; exact a_eqX g hk (by simp [Op.equal, hd, Op.equalIn, run_und ht]) (by simp) (by simp) (by simp) (by simp) (by simp) (by simp))
theorem a_eqC (g : Good T ρ h w) {v u : AV} {x y : Value} (hv : VR ρ v x) (hu : VR ρ u y) {neg : Bool} (hk : oko h K (bNg neg (eqC v u)) = .yes) {t e : TypeId} {di : ChanDir} {xo yo : Operand} (ht : P.underlying t = some (.chan di e)) :
    AnsQ T P ρ h w K (do eqGuard (eqOp neg) t xo yo x y; binOp (eqOp neg) t x y) := by
  obtain ⟨z, hz, hk⟩ := oko_inv hk
  obtain ⟨b, hb, rfl⟩ := bNg_inv hz
  obtain ⟨d, hd⟩ := md
  unfold eqC at hb
  split at hb <;> first | (cases hb; done) | (cases hb; cases hv; cases hu; exact a_eqX g hk (by simp [Op.equal, hd, Op.equalIn, run_und ht]) (by simp) (by simp) (by simp) (by simp) (by simp) (by simp))
theorem a_eqF (g : Good T ρ h w) {v u : AV} {x y : Value} (hv : VR ρ v x) (hu : VR ρ u y) {neg : Bool} (hk : oko h K (bNg neg (eqF v u)) = .yes) {t : TypeId} {ps rs : Array TypeId} {va : Bool} {xo yo : Operand} (ht : P.underlying t = some (.func ps rs va)) :
    AnsQ T P ρ h w K (do eqGuard (eqOp neg) t xo yo x y; binOp (eqOp neg) t x y) := by
  obtain ⟨z, hz, hk⟩ := oko_inv hk
  obtain ⟨b, hb, rfl⟩ := bNg_inv hz
  obtain ⟨d, hd⟩ := md
  unfold eqF at hb
  split at hb <;> first | (cases hb; done) | (cases hb; cases hv; cases hu; exact a_eqX g hk (by simp [Op.equal, hd, Op.equalIn, run_und ht]) (by simp) (by simp) (by simp) (by simp) (by simp) (by simp))
def Operand.isK : Operand → Bool
  | .const _ => true | _ => false
theorem a_eqN (g : Good T ρ h w) {v u : AV} {x y : Value} (hv : VR ρ v x) (hu : VR ρ u y) {neg : Bool} (hk : oko h K (bNg neg (eqN v u)) = .yes) {t : TypeId} {ms : Array (String × TypeId)} {xo yo : Operand} (ht : P.underlying t = some (.interface ms)) (hc : (Operand.isK xo || Operand.isK yo) = true) :
    AnsQ T P ρ h w K (do eqGuard (eqOp neg) t xo yo x y; binOp (eqOp neg) t x y) := by
  obtain ⟨z, hz, hk⟩ := oko_inv hk
  obtain ⟨b, hb, rfl⟩ := bNg_inv hz
  obtain ⟨d, hd⟩ := md
  have hgd : ∀ {y}, (eqGuard (eqOp neg) t xo yo .nilIface y).run P w = .ok () w := fun {y} => guard_nil (by
    cases xo <;> cases yo <;> first | rfl | (simp [Operand.isK] at hc))
  unfold eqN at hb
  split at hb
  · cases hb; cases hv; cases hu
    have := run_eq2 (P := P) (w := w) (t := t) (x := .nilIface) (y := .nilIface) (b := true) (by simp [Op.equal, hd, Op.equalIn, run_und ht]) (by simp) (by simp) (by simp) (by simp)
    exact eq_of g hk hgd this.1 this.2
  · cases hb; cases hv
    cases hu
    exact eq_of g hk hgd (run_eq2 (b := false) (by simp [Op.equal, hd, Op.equalIn, run_und ht]) (by simp) (by simp) (by simp) (by simp)).1 (run_eq2 (b := false) (by simp [Op.equal, hd, Op.equalIn, run_und ht]) (by simp) (by simp) (by simp) (by simp)).2
  · cases hb; cases hv; cases hu
    exact a_eqX g hk (by simp [Op.equal, hd, Op.equalIn, run_und ht]) (by simp) (by simp) (by simp) (by simp) (by simp) (by simp)
  · cases hb
end
end
end Ev
namespace Ev
noncomputable section
open Go
section
variable {T : Tb} {ρ : Rho} {h : HP} {w : World} {K : Kv} {P : Program} {l : LS} {e : Tr AV}

/-! ### == of structs of plain fields -/
def eqLk : List FK → List AV → List AV → Option Bool
  | [], [], [] => some true
  | k :: ks, v :: vs, u :: us => match eqFk k v u with
    | some true => eqLk ks vs us
    | x => x
  | _, _, _ => none
theorem eqLk_bytes : ∀ (n : Nat) (as bs : List Nat) (ks ks' : List FK) (r s : List AV), as.length = n → bs.length = n → drI n ks = some ks' →
    eqLk ks (as.map (fun x => AV.nt .u8 (Int.ofNat x)) ++ r) (bs.map (fun x => AV.nt .u8 (Int.ofNat x)) ++ s) = if as = bs then eqLk ks' r s else some false
  | 0, as, bs, ks, ks', r, s, ha, hb, hd => by
    have : as = [] := List.eq_nil_of_length_eq_zero ha
    have : bs = [] := List.eq_nil_of_length_eq_zero hb
    subst as; subst bs
    cases hd; simp
  | n + 1, [], bs, ks, ks', r, s, ha, hb, hd => by simp at ha
  | n + 1, a :: as, [], ks, ks', r, s, ha, hb, hd => by simp at hb
  | n + 1, a :: as, b :: bs, ks, ks', r, s, ha, hb, hd => by
    cases ks with
    | nil => cases hd
    | cons k ks =>
      cases k with
      | s => cases hd
      | b => cases hd
      | i =>
        have ih := eqLk_bytes n as bs ks ks' r s (by simpa using ha) (by simpa using hb) hd
        show (match eqFk .i (AV.nt .u8 (Int.ofNat a)) (AV.nt .u8 (Int.ofNat b)) with | some true => eqLk ks _ _ | x => x) = _
        have he : eqFk .i (AV.nt .u8 (Int.ofNat a)) (AV.nt .u8 (Int.ofNat b)) = some (decide (a = b)) := by
          show bf (kkE .u8 .u8) (some (iEq (Int.ofNat a) (Int.ofNat b))) none = _
          rw [iEq_eq]
          show some (Int.ofNat a == Int.ofNat b) = _
          congr 1
          by_cases hab : a = b
          · subst hab; simp
          · have : ¬ (a : Int) = b := by omega
            simp [hab, this]
        rw [he]
        by_cases hab : a = b
        · subst hab
          simp only [decide_true, List.cons.injEq, true_and]
          exact ih
        · simp [hab]
theorem bys_map (n d : Nat) : bys n d = ((List.range n).map (byt d)).map (fun x => AV.nt .u8 (Int.ofNat x)) := by
  simp [bys, byA]
theorem eqAk_exp : ∀ {ks : List FK} {c d : CV} {b : Bool}, eqAk ks c d = some b → c.wf → d.wf → eqLk ks c.exp d.exp = some b
  | ks, .nil, .nil, b, h, _, _ => by
    unfold eqAk at h
    cases ks with
    | nil => cases h; rfl
    | cons k ks => cases h
  | ks, .c v r, .c u s, b, h, hc, hd => by
    unfold eqAk at h
    cases ks with
    | nil => cases h
    | cons k ks =>
      show eqLk (k :: ks) (v :: r.exp) (u :: s.exp) = some b
      unfold eqLk
      dsimp only at h
      cases he : eqFk k v u with
      | none => rw [he] at h; cases h
      | some x =>
        rw [he] at h
        cases x with
        | true => exact eqAk_exp h hc hd
        | false => exact h
  | ks, .b n d r, .b m e s, b, h, hc, hd => by
    unfold eqAk at h
    rw [bf_if] at h
    split at h
    · rename_i hnm
      have hnm : n = m := by simpa using hnm
      subst hnm
      cases hdr : drI n ks with
      | none => rw [hdr] at h; cases h
      | some ks' =>
        rw [hdr] at h
        dsimp only at h
        rw [bf_if] at h
        show eqLk ks (bys n d ++ r.exp) (bys n e ++ s.exp) = some b
        rw [bys_map, bys_map, eqLk_bytes n _ _ ks ks' _ _ (by simp) (by simp) hdr]
        have hinj : (List.range n).map (byt d) = (List.range n).map (byt e) ↔ d = e := by
          constructor
          · intro hh
            refine byt_ext hc.1 hd.1 fun i hi => ?_
            have := congrArg (fun l => l[i]?) hh
            simpa [hi] using this
          · rintro rfl; rfl
        by_cases hde : d = e
        · subst hde
          rw [if_pos rfl]
          simp only [Nat.beq_eq, if_true] at h
          exact eqAk_exp (by simpa using h) hc.2 hd.2
        · rw [if_neg (fun hh => hde (hinj.1 hh))]
          rw [if_neg (by simpa using hde)] at h
          exact h
    · cases h
  | ks, .nil, .c _ _, b, h, _, _ => by unfold eqAk at h; cases ks <;> cases h
  | ks, .nil, .b _ _ _, b, h, _, _ => by unfold eqAk at h; cases ks <;> cases h
  | ks, .c _ _, .nil, b, h, _, _ => by unfold eqAk at h; cases ks <;> cases h
  | ks, .c _ _, .b _ _ _, b, h, _, _ => by unfold eqAk at h; cases ks <;> cases h
  | ks, .b _ _ _, .nil, b, h, _, _ => by unfold eqAk at h; cases ks <;> cases h
  | ks, .b _ _ _, .c _ _, b, h, _, _ => by unfold eqAk at h; cases ks <;> cases h
/-- the fields -/
def fkOf (P : Program) (t : TypeId) : Option FK := match P.underlying t with
  | some (.int _) => some .i | some .string => some .s | some .bool => some .b | _ => none
def fksOf (P : Program) : List Field → Nat → Option (List FK)
  | [], _ => some []
  | f :: r, i => match fkOf P f.type, fksOf P r (Nat.add i 1) with
    | some k, some ks => bif Nat.beq f.offset i && !(f.name == "_") then some (k :: ks) else none
    | _, _ => none
theorem run_field {t : TypeId} {k : FK} (hk : fkOf P t = some k) {v u : AV} {x y : Value} (hv : VR ρ v x) (hu : VR ρ u y) {b : Bool} (he : eqFk k v u = some b) (d : Nat) : (Op.equalIn (d + 1) t x y).run P w = .ok b w := by
  unfold fkOf at hk
  split at hk
  · rename_i ki hu'
    cases hk
    unfold eqFk at he
    split at he
    · rename_i k1 a j1 c heq
      rw [bf_if] at he
      split at he
      · rename_i hkk; rw [kkE_iff] at hkk; subst hkk
        cases he
        cases hv; cases hu
        simp [Op.equalIn, run_und hu', iEq_eq]
      · cases he
    · rename_i heq; cases heq
    · rename_i heq; cases heq
    · cases he
  · rename_i hu'
    cases hk
    unfold eqFk at he
    split at he
    · rename_i heq; cases heq
    · rename_i n1 a m1 c heq
      cases he
      cases hv with
      | st _ _ h1 =>
      cases hu with
      | st _ _ h2 =>
      simp only [Op.equalIn, Sem.run_bind, run_und hu', Result.andThen_ok, Sem.run_pure, Result.ok.injEq, and_true]
      have hbe : ∀ p q : ByteArray, ((p == q) = true) ↔ p = q := fun p q => by
        show ((p.data == q.data) = true) ↔ _
        rw [beq_iff_eq]
        exact ⟨fun hh => ByteArray.ext hh, fun hh => by rw [hh]⟩
      rw [Bool.eq_iff_iff, hbe, strOf_inj h1 h2, bf_if]
      by_cases h3 : n1 = m1
      · subst h3; simp
      · simp [h3]
    · rename_i heq; cases heq
    · cases he
  · rename_i hu'
    cases hk
    unfold eqFk at he
    split at he
    · rename_i heq; cases heq
    · rename_i heq; cases heq
    · rename_i a c heq
      cases he
      cases hv; cases hu
      simp only [Op.equalIn, Sem.run_bind, run_und hu', Result.andThen_ok, Sem.run_pure, Result.ok.injEq, and_true]
      cases a <;> cases c <;> rfl
    · cases he
  · cases hk
theorem fk_ag {t : TypeId} {k : FK} (hk : fkOf P t = some k) : ∃ d, P.underlying t = some d ∧ TypeDesc.ag d = false := by
  unfold fkOf at hk
  split at hk
  · rename_i hu; exact ⟨_, hu, rfl⟩
  · rename_i hu; exact ⟨_, hu, rfl⟩
  · rename_i hu; exact ⟨_, hu, rfl⟩
  · cases hk
theorem run_part1 {t : TypeId} {k : FK} (hk : fkOf P t = some k) {X : Array Value} {i : Nat} {x : Value} (hx : X[i]? = some x) : (part t X i).run P w = .ok x w := by
  obtain ⟨d, hu, hag⟩ := fk_ag hk
  simp only [part, Sem.run_bind, run_agg hu, Result.andThen_ok, hag, Bool.false_eq_true, if_false, hx]; rfl
theorem run_fields {d : Nat} {X Y : Array Value} {vs us : List AV} (hX : AL ρ vs X.toList) (hY : AL ρ us Y.toList) : ∀ (fs : List Field) (i : Nat) (ks : List FK) (b : Bool), fksOf P fs i = some ks → eqLk ks (vs.drop i) (us.drop i) = some b →
    (forIn fs ((none, ()) : Option Bool × Unit) fun (f : Field) (__s : Option Bool × Unit) =>
      if f.name ≠ "_" then do
        let p ← part f.type X f.offset
        let q ← part f.type Y f.offset
        let r ← Op.equalIn (d + 1) f.type p q
        if (!r) = true then pure (ForInStep.done (some false, ())) else pure (ForInStep.yield (none, ()))
      else pure (ForInStep.yield (none, ()))).run P w = .ok ((if b then none else some false), ()) w
  | [], i, ks, b, hf, he => by
    cases hf
    cases hv : vs.drop i with
    | nil =>
      cases hu : us.drop i with
      | nil => rw [hv, hu] at he; cases he; rfl
      | cons _ _ => rw [hv, hu] at he; cases he
    | cons _ _ => rw [hv] at he; cases he
  | f :: fs, i, ks, b, hf, he => by
    unfold fksOf at hf
    split at hf
    · rename_i k ks' hk hks
      cases hc : (Nat.beq f.offset i && !(f.name == "_")) with
      | false => rw [hc] at hf; cases hf
      | true =>
        rw [hc] at hf; cases hf
        simp only [Bool.and_eq_true, Nat.beq_eq, Bool.not_eq_true', beq_eq_false_iff_ne, ne_eq] at hc
        obtain ⟨hoff, hname⟩ := hc
        cases hv : vs.drop i with
        | nil => rw [hv] at he; cases hu : us.drop i <;> rw [hu] at he <;> cases he
        | cons v vr =>
          cases hu : us.drop i with
          | nil => rw [hv, hu] at he; cases he
          | cons u ur =>
            rw [hv, hu] at he
            have he : (match eqFk k v u with | some true => eqLk ks' vr ur | x => x) = some b := he
            have gv : vs[i]? = some v := by have := congrArg (fun l => l[0]?) hv; simpa using this
            have gu : us[i]? = some u := by have := congrArg (fun l => l[0]?) hu; simpa using this
            obtain ⟨x, hx, hvx⟩ := hX.get gv
            obtain ⟨y, hy, huy⟩ := hY.get gu
            have p1 := run_part1 (P := P) (w := w) hk (X := X) (i := i) (x := x) (by simpa using hx)
            have p2 := run_part1 (P := P) (w := w) hk (X := Y) (i := i) (x := y) (by simpa using hy)
            have hdv : vs.drop (i + 1) = vr := by rw [← List.drop_drop, hv]; rfl
            have hdu : us.drop (i + 1) = ur := by rw [← List.drop_drop, hu]; rfl
            rw [List.forIn_cons, if_pos hname, hoff]
            cases hq : eqFk k v u with
            | none => rw [hq] at he; cases he
            | some c =>
              rw [hq] at he
              have p3 := run_field (w := w) hk hvx huy hq d
              simp only [Sem.run_bind, p1, p2, p3, Result.andThen_ok]
              cases c with
              | false =>
                have he : some false = some b := he
                cases he
                simp
              | true =>
                have he : eqLk ks' vr ur = some b := he
                have ih := run_fields (d := d) hX hY fs (i + 1) ks' b hks (by rw [hdv, hdu]; exact he)
                simp only [Bool.not_true, Bool.false_eq_true, if_false, Sem.run_pure, Result.andThen_ok]
                exact ih
    · cases hf
/-! structs in structs -/
theorem eqLk_app : ∀ (js ks : List FK) (vs us : List AV) (b : Bool), eqLk (js ++ ks) vs us = some b → ∃ c, eqLk js (vs.take js.length) (us.take js.length) = some c ∧ (c = false → b = false) ∧ (c = true → eqLk ks (vs.drop js.length) (us.drop js.length) = some b)
  | [], ks, vs, us, b, h => ⟨true, rfl, fun h => (by cases h), fun _ => h⟩
  | k :: js, ks, [], us, b, h => by cases us <;> cases h
  | k :: js, ks, v :: vs, [], b, h => by cases h
  | k :: js, ks, v :: vs, u :: us, b, h => by
    have h : (match eqFk k v u with | some true => eqLk (js ++ ks) vs us | x => x) = some b := h
    have e : eqLk (k :: js) (List.take (k :: js).length (v :: vs)) (List.take (k :: js).length (u :: us)) = (match eqFk k v u with | some true => eqLk js (vs.take js.length) (us.take js.length) | x => x) := rfl
    rw [e]
    cases hq : eqFk k v u with
    | none => rw [hq] at h; cases h
    | some c =>
      rw [hq] at h
      cases c with
      | false =>
        have h : some false = some b := h
        cases h
        exact ⟨false, rfl, fun _ => rfl, fun h => (by cases h)⟩
      | true =>
        obtain ⟨c, h1, h2, h3⟩ := eqLk_app js ks vs us b h
        exact ⟨c, h1, h2, h3⟩
def fksOf2 (P : Program) : List Field → Nat → Option (List FK)
  | [], _ => some []
  | f :: r, i => match fkOf P f.type with
    | some k => (match fksOf2 P r (Nat.add i 1) with
      | some ks => bif Nat.beq f.offset i && !(f.name == "_") then some (k :: ks) else none
      | none => none)
    | none => match P.underlying f.type with
      | some (.struct gs) => (match fksOf P gs.toList 0 with
        | some js => (match fksOf2 P r (Nat.add i js.length) with
          | some ks => bif (Nat.beq f.offset i && !(f.name == "_")) && ((match szOf P f.type with | some m => Nat.beq m js.length | none => false) && !(P.stoodInHeld f.type)) then some (js ++ ks) else none
          | none => none)
        | none => none)
      | _ => none
theorem run_partA {t : TypeId} {gs : Array Field} (hu : P.underlying t = some (.struct gs)) {m : Nat} (hm : szOf P t = some m) {X : Array Value} {i : Nat} : (part t X i).run P w = .ok (.agg (X.extract i (i + m))) w := by
  simp only [part, Sem.run_bind, run_agg hu, Result.andThen_ok, TypeDesc.ag, if_true, run_size hm]; rfl
theorem run_fields2 {d : Nat} {X Y : Array Value} {vs us : List AV} (hX : AL ρ vs X.toList) (hY : AL ρ us Y.toList) : ∀ (fs : List Field) (i : Nat) (ks : List FK) (b : Bool), fksOf2 P fs i = some ks → eqLk ks (vs.drop i) (us.drop i) = some b →
    (forIn fs ((none, ()) : Option Bool × Unit) fun (f : Field) (__s : Option Bool × Unit) =>
      if f.name ≠ "_" then do
        let p ← part f.type X f.offset
        let q ← part f.type Y f.offset
        let r ← Op.equalIn (d + 1 + 1) f.type p q
        if (!r) = true then pure (ForInStep.done (some false, ())) else pure (ForInStep.yield (none, ()))
      else pure (ForInStep.yield (none, ()))).run P w = .ok ((if b then none else some false), ()) w
  | [], i, ks, b, hf, he => by
    cases hf
    cases hv : vs.drop i with
    | nil =>
      cases hu : us.drop i with
      | nil => rw [hv, hu] at he; cases he; rfl
      | cons _ _ => rw [hv, hu] at he; cases he
    | cons _ _ => rw [hv] at he; cases he
  | f :: fs, i, ks, b, hf, he => by
    unfold fksOf2 at hf
    split at hf
    · rename_i k hk
      split at hf
      · rename_i ks' hks
        cases hc : (Nat.beq f.offset i && !(f.name == "_")) with
        | false => rw [hc] at hf; cases hf
        | true =>
          rw [hc] at hf; cases hf
          simp only [Bool.and_eq_true, Nat.beq_eq, Bool.not_eq_true', beq_eq_false_iff_ne, ne_eq] at hc
          obtain ⟨hoff, hname⟩ := hc
          cases hv : vs.drop i with
          | nil => rw [hv] at he; cases hu : us.drop i <;> rw [hu] at he <;> cases he
          | cons v vr =>
            cases hu : us.drop i with
            | nil => rw [hv, hu] at he; cases he
            | cons u ur =>
              rw [hv, hu] at he
              have he : (match eqFk k v u with | some true => eqLk ks' vr ur | x => x) = some b := he
              have gv : vs[i]? = some v := by have := congrArg (fun l => l[0]?) hv; simpa using this
              have gu : us[i]? = some u := by have := congrArg (fun l => l[0]?) hu; simpa using this
              obtain ⟨x, hx, hvx⟩ := hX.get gv
              obtain ⟨y, hy, huy⟩ := hY.get gu
              have p1 := run_part1 (P := P) (w := w) hk (X := X) (i := i) (x := x) (by simpa using hx)
              have p2 := run_part1 (P := P) (w := w) hk (X := Y) (i := i) (x := y) (by simpa using hy)
              have hdv : vs.drop (i + 1) = vr := by rw [← List.drop_drop, hv]; rfl
              have hdu : us.drop (i + 1) = ur := by rw [← List.drop_drop, hu]; rfl
              rw [List.forIn_cons, if_pos hname, hoff]
              cases hq : eqFk k v u with
              | none => rw [hq] at he; cases he
              | some c =>
                rw [hq] at he
                have p3 := run_field (w := w) hk hvx huy hq (d + 1)
                simp only [Sem.run_bind, p1, p2, p3, Result.andThen_ok]
                cases c with
                | false =>
                  have he : some false = some b := he
                  cases he
                  simp
                | true =>
                  have he : eqLk ks' vr ur = some b := he
                  have ih := run_fields2 (d := d) hX hY fs (i + 1) ks' b hks (by rw [hdv, hdu]; exact he)
                  simp only [Bool.not_true, Bool.false_eq_true, if_false, Sem.run_pure, Result.andThen_ok]
                  exact ih
      · cases hf
    · split at hf
      · rename_i gs hgs
        split at hf
        · rename_i js hjs
          split at hf
          · rename_i ks' hks
            cases hc : ((Nat.beq f.offset i && !(f.name == "_")) && ((match szOf P f.type with | some m => Nat.beq m js.length | none => false) && !(P.stoodInHeld f.type))) with
            | false => rw [hc] at hf; cases hf
            | true =>
              rw [hc] at hf; cases hf
              simp only [Bool.and_eq_true, Nat.beq_eq, Bool.not_eq_true', beq_eq_false_iff_ne, ne_eq] at hc
              obtain ⟨⟨hoff, hname⟩, hsz, hst⟩ := hc
              have hm : szOf P f.type = some js.length := by
                cases hz : szOf P f.type with
                | none => rw [hz] at hsz; cases hsz
                | some m => rw [hz] at hsz; rw [show m = js.length by simpa using hsz]
              obtain ⟨c, e1, e2, e3⟩ := eqLk_app js ks' _ _ b he
              have p1 := run_partA (P := P) (w := w) hgs hm (X := X) (i := i)
              have p2 := run_partA (P := P) (w := w) hgs hm (X := Y) (i := i)
              have hXi : AL ρ ((vs.drop i).take js.length) (X.extract i (i + js.length)).toList := by
                have := (hX.drop i).take js.length
                simpa [List.extract_eq_take_drop] using this
              have hYi : AL ρ ((us.drop i).take js.length) (Y.extract i (i + js.length)).toList := by
                have := (hY.drop i).take js.length
                simpa [List.extract_eq_take_drop] using this
              have p3 : (Op.equalIn (d + 1 + 1) f.type (.agg (X.extract i (i + js.length))) (.agg (Y.extract i (i + js.length)))).run P w = .ok c w := by
                unfold Op.equalIn
                simp only [Sem.run_bind, run_und hgs, Result.andThen_ok, run_program, hst, Bool.false_eq_true, if_false]
                rw [← Array.forIn_toList, run_fields hXi hYi gs.toList 0 js c hjs (by simpa using e1)]
                cases c <;> rfl
              rw [List.forIn_cons, if_pos hname, hoff]
              simp only [Sem.run_bind, p1, p2, p3, Result.andThen_ok]
              cases c with
              | false =>
                have := e2 rfl
                subst this
                simp
              | true =>
                have he := e3 rfl
                rw [List.drop_drop, List.drop_drop] at he
                have ih := run_fields2 (d := d) hX hY fs (i + js.length) ks' b hks he
                simp only [Bool.not_true, Bool.false_eq_true, if_false, Sem.run_pure, Result.andThen_ok]
                exact ih
          · cases hf
        · cases hf
      · cases hf
theorem md2 : ∃ n, Op.maxDepth = n + 1 + 1 + 1 := ⟨_, rfl⟩
theorem a_eqS (g : Good T ρ h w) {v u : AV} {x y : Value} (hv : VR ρ v x) (hu : VR ρ u y) {neg : Bool} {ks : List FK} (hk : oko h K (bNg neg (eqSt ks v u)) = .yes) {t : TypeId} {fs : Array Field} {xo yo : Operand} (ht : P.underlying t = some (.struct fs))
    (hf : fksOf2 P fs.toList 0 = some ks) (hs : P.stoodInHeld t = false) (hg : P.eqGuardType P.depth t = false) : AnsQ T P ρ h w K (do eqGuard (eqOp neg) t xo yo x y; binOp (eqOp neg) t x y) := by
  obtain ⟨z, hz, hk1⟩ := oko_inv hk
  clear hk
  obtain ⟨b, hb, rfl⟩ := bNg_inv hz
  unfold eqSt at hb
  split at hb
  · rename_i c d
    cases hv with
    | @ag _ X hX hwX =>
    cases hu with
    | @ag _ Y hY hwY =>
    have hL := eqAk_exp hb hwX hwY
    have he : (Op.equal t (.agg X) (.agg Y)).run P w = .ok b w := by
      obtain ⟨n, hn⟩ := md2
      unfold Op.equal
      rw [hn]
      unfold Op.equalIn
      simp only [Sem.run_bind, run_und ht, Result.andThen_ok, run_program, hs, Bool.false_eq_true, if_false]
      rw [← Array.forIn_toList, run_fields2 hX hY fs.toList 0 ks b hf (by simpa using hL)]
      cases b <;> rfl
    have hgd : (eqGuard (eqOp neg) t xo yo (.agg X) (.agg Y)).run P w = .ok () w := by
      unfold eqGuard eqOp
      cases neg <;> simp [hg]
    have h2 := run_eq2 he (by simp) (by simp) (by simp) (by simp)
    exact eq_of g hk1 hgd h2.1 h2.2
  · cases hb
end
end
end Ev
namespace Ev
noncomputable section
open Go
section
variable {T : Tb} {ρ : Rho} {h : HP} {w : World} {K : Kv} {P : Program} {l : LS} {e : Tr AV}

theorem a_build (g : Good T ρ h w) {z : CV} {ps : Pt} {qs : Array (Nat × Value)} {t : TypeId} {zv : Value} {place : Nat → Option (Nat × Nat)} (hk : fill l e (fun c => K (.ag c) h) ps z = .yes)
    (hz : zrOf P t = some zv) (hzr : AL ρ z.exp zv.cells.toList) (hw : z.wf) (hps : PL ρ l e place ps qs.toList)
    (hpl : (∃ n el m, P.underlying t = some (.array n el) ∧ szOf P el = some m ∧ place = fun i => some (i * m, m)) ∨
      (∃ fs : Array Field, ∃ pl : Array (Nat × Nat), P.underlying t = some (.struct fs) ∧ (fs.mapM fun f => (do pure (f.offset, ← Go.sizeOf f.type) : Sem (Nat × Nat))).run P w = .ok pl w ∧ place = fun i => pl[i]?)) : AnsQ T P ρ h w K (Instr.build t qs) := by
  obtain ⟨c, cs, hk, hc, hcw, _, hf⟩ := fill_ok hps hzr hw hk
  refine .still g hk (.ag hc hcw) ?_
  rcases hpl with ⟨n, el, m, hu, hm, rfl⟩ | ⟨fs, pl, hu, hpl, rfl⟩
  · simp [Instr.build, run_zero hz, run_und hu, run_size hm, hf]
  · simp only [Instr.build, Sem.run_bind, run_zero hz, run_und hu, Result.andThen_ok]
    rw [hpl]
    simp only [Result.andThen_ok, hf]; rfl
theorem a_bsl (g : Good T ρ h w) {z : CV} {ps : Pt} {qs : Array (Nat × Value)} {t el : TypeId} {n m : Nat} {zv : Value} (hk : fill l e (fun c => K (.sl h.nx 0 n n true m) (h.new (.cells c el true false))) ps z = .yes)
    (hu : P.underlying t = some (.slice el)) (hm : szOf P el = some m) (hle : n * m ≤ 2 ^ 24) (hz : zrOf P el = some zv) (hzs : zv.cells.size = m)
    (hzr : AL ρ z.exp ((Array.range (n * m)).map (zv.cells[· % zv.cells.size]!)).toList) (hw : z.wf) (hps : PL ρ l e (fun i => some (i * m, m)) ps qs.toList) : Ans T P ρ h w K (Instr.buildSlice t n qs) := by
  obtain ⟨c, cs, hk, hc, hcw, hlen, hf⟩ := fill_ok hps hzr hw hk
  have hsz : cs.toList.length = n * m := by rw [← hc.length, hlen, hzr.length]; simp
  obtain ⟨σ, hp, hs⟩ := newRow_ok g hc hcw el true w.drawn
  refine ⟨_, _, σ, _, .slice (some ⟨w.heap.size, 0, none⟩) n n, hk, hp, ?_, ?_⟩
  · have := VR.sl (ρ := σ) (off := 0) (len := n) (cap := n) (esz := m) (c := n) (ex := true) hs (fun _ => rfl) (Nat.le_refl _) (Nat.le_refl _) (by simpa using Nat.le_of_eq hsz.symm)
    simpa using this
  · have hgt : ¬ (n * m > 2 ^ 24) := by omega
    simp only [Instr.buildSlice, Sem.run_bind, run_und hu, run_size hm, Result.andThen_ok]
    rw [if_neg (by simpa using hgt)]
    by_cases h0 : n * m = 0
    · have he : ((Array.range (n * m)).map (zv.cells[· % zv.cells.size]!)) = #[] := by rw [h0]; simp
      rw [he] at hf
      simp only [h0, if_true]
      have he' : ((Array.range 0).map ((#[] : Array Value)[· % (#[] : Array Value).size]!)) = #[] := by simp
      simp only [pure_bind, he', hf]
      simp [newRow]
    · simp only [h0, if_false, Sem.run_bind, run_zero hz, Result.andThen_ok, Sem.run_pure]
      rw [hf]
      simp [newRow]
theorem vNil_inv {v : AV} (hk : vNil h K v = .yes) : K v h = .yes ∧ v ≠ .pn ∧ v ≠ .iz ∧ v ≠ .fz ∧ v ≠ .un ∧ v ≠ .ud := by
  unfold vNil at hk
  split at hk <;> first | (exact no_yes hk) | skip
  rename_i a b c d e
  exact ⟨hk, a, b, c, d, e⟩
/-- a check for nil: of what is known to be there -/
theorem a_nil (g : Good T ρ h w) {v : AV} {x : Value} (hv : VR ρ v x) (hk : vNil h K v = .yes) : AnsQ T P ρ h w K (match x with
    | .pointer none | .nilIface | .nilFunc => (runtimePanic .nilDeref : Sem Value)
    | .func (.method name) first captured => (stuck "" : Sem Value)
    | x => pure x) := by
  obtain ⟨hk, h1, h2, h3, hu, hud⟩ := vNil_inv hk
  cases hv <;> first | (exact absurd rfl hu) | (exact absurd rfl hud) | (exact absurd rfl h1) | (exact absurd rfl h2) | (exact absurd rfl h3) | (refine .still g hk ?_ rfl; first | exact .bo _ | exact .nt _ _ | (apply VR.st; assumption) | (apply VR.pt; assumption) | exact .sn | exact .se _ _ | (apply VR.sl <;> assumption) | exact .mn | (apply VR.mp; assumption) | exact .cn | (apply VR.ch; assumption) | (apply VR.fn <;> assumption) | (apply VR.yl; assumption) | (apply VR.it; assumption) | (apply VR.ag <;> assumption) | (apply VR.tu <;> assumption))

/-! ### numbers -/
theorem run_int (g : Good T ρ h w) {op : BinOp} (ho : isEq op = false) {f : IntKind → Int → Int → Option AV} {v u : AV} {x y : Value} (hv : VR ρ v x) (hu : VR ρ u y) (hk : oko h K (ints f v u) = .yes) {t : TypeId} {xo yo : Operand}
    (hs : op ≠ .shl ∧ op ≠ .shr) (hr : ∀ k a b z, f k a b = some z → ∃ n, z = .nt k n ∧ (binOp op t (.int k a) (.int k b)).run P w = .ok (.int k n) w) : AnsQ T P ρ h w K (do eqGuard op t xo yo x y; binOp op t x y) := by
  obtain ⟨z, hz, hk⟩ := oko_inv hk
  obtain ⟨k, a, b, rfl, rfl, hf⟩ := ints_inv hz
  obtain ⟨n, rfl, hr⟩ := hr k a b z hf
  cases hv; cases hu
  exact .still g hk (.nt _ _) (by rw [guard_no ho]; exact hr)
theorem and_lt (n a b : Nat) (ha : a < 2 ^ n) (_ : b < 2 ^ n) : Nat.land a b < 2 ^ n := Nat.lt_of_le_of_lt Nat.and_le_left ha
theorem or_lt (n a b : Nat) (ha : a < 2 ^ n) (hb : b < 2 ^ n) : Nat.lor a b < 2 ^ n := Nat.or_lt_two_pow ha hb
theorem xor_lt (n a b : Nat) (ha : a < 2 ^ n) (hb : b < 2 ^ n) : Nat.xor a b < 2 ^ n := Nat.xor_lt_two_pow ha hb
theorem a_bin (g : Good T ρ h w) {op : BinOp} (ho : isEq op = false) (hop : op ≠ .andNot) {v u : AV} {x y : Value} (hv : VR ρ v x) (hu : VR ρ u y) (hk : oko h K (bin op v u) = .yes) {t : TypeId} {xo yo : Operand} :
    AnsQ T P ρ h w K (do eqGuard op t xo yo x y; binOp op t x y) := by
  cases op with
  | add => exact a_add g hv hu hk
  | sub =>
    refine run_int g ho hv hu hk ⟨by simp, by simp⟩ fun k a b z hf => ?_
    cases hf
    exact ⟨_, rfl, by rw [run_bin_int (by simp) (by simp), wr_eq, isub_eq]; rfl⟩
  | mul =>
    refine run_int g ho hv hu hk ⟨by simp, by simp⟩ fun k a b z hf => ?_
    cases hf
    exact ⟨_, rfl, by rw [run_bin_int (by simp) (by simp), wr_eq]; rfl⟩
  | quo =>
    refine run_int g ho hv hu hk ⟨by simp, by simp⟩ fun k a b z hf => ?_
    unfold bQuo at hf
    split at hf
    · cases hf
    · rename_i a b hb
      cases hf
      refine ⟨_, rfl, ?_⟩
      rw [run_bin_int (by simp) (by simp), wr_eq]
      have : (Int.ofNat b) ≠ 0 := by intro e; apply hb; simpa using e
      simp only [Op.intDiv, this, if_false]; rfl
    · rename_i hb _
      cases hf
      refine ⟨_, rfl, ?_⟩
      rw [run_bin_int (by simp) (by simp)]
      have : b ≠ 0 := by intro e; exact hb e
      simp only [Op.intDiv, this, if_false]; rfl
  | rem =>
    refine run_int g ho hv hu hk ⟨by simp, by simp⟩ fun k a b z hf => ?_
    unfold bRem at hf
    split at hf
    · cases hf
    · rename_i a b hb
      cases hf
      refine ⟨_, rfl, ?_⟩
      rw [run_bin_int (by simp) (by simp)]
      have : (Int.ofNat b) ≠ 0 := by intro e; apply hb; simpa using e
      simp only [Op.intDiv, this, if_false]; rfl
    · rename_i hb _
      cases hf
      refine ⟨_, rfl, ?_⟩
      rw [run_bin_int (by simp) (by simp)]
      have : b ≠ 0 := by intro e; exact hb e
      simp only [Op.intDiv, this, if_false]; rfl
  | and =>
    refine run_int g ho hv hu hk ⟨by simp, by simp⟩ fun k a b z hf => ?_
    obtain ⟨m, n, rfl, rfl, hm, hn, rfl⟩ := nats_inv hf
    exact ⟨_, rfl, by rw [run_bin_int (by simp) (by simp)]; exact run_bits hm hn (bits_le and_lt hm hn) (fun x y => by simp [Op.intBits, BitVec.toNat_and] <;> rfl)⟩
  | or =>
    refine run_int g ho hv hu hk ⟨by simp, by simp⟩ fun k a b z hf => ?_
    obtain ⟨m, n, rfl, rfl, hm, hn, rfl⟩ := nats_inv hf
    exact ⟨_, rfl, by rw [run_bin_int (by simp) (by simp)]; exact run_bits hm hn (bits_le or_lt hm hn) (fun x y => by simp [Op.intBits, BitVec.toNat_or] <;> rfl)⟩
  | xor =>
    refine run_int g ho hv hu hk ⟨by simp, by simp⟩ fun k a b z hf => ?_
    obtain ⟨m, n, rfl, rfl, hm, hn, rfl⟩ := nats_inv hf
    exact ⟨_, rfl, by rw [run_bin_int (by simp) (by simp)]; exact run_bits hm hn (bits_le xor_lt hm hn) (fun x y => by simp [Op.intBits, BitVec.toNat_xor] <;> rfl)⟩
  | shl =>
    obtain ⟨z, hz, hk⟩ := oko_inv hk
    have hz : shfs bShl v u = some z := hz
    unfold shfs at hz
    split at hz
    · rename_i k a j b
      unfold bShl at hz
      split at hz
      · cases hz; cases hv; cases hu
        refine .still g hk (.nt _ _) ?_
        rw [guard_no rfl, wr_eq]
        simp only [binOp, Op.shift]
        rw [if_neg (by simp)]; rfl
      · cases hz
    · cases hz
  | shr =>
    obtain ⟨z, hz, hk⟩ := oko_inv hk
    have hz : shfs bShr v u = some z := hz
    unfold shfs at hz
    split at hz
    · rename_i k a j b
      unfold bShr at hz
      split at hz
      · cases hz; cases hv; cases hu
        rename_i b a _ _
        refine .still g hk (.nt _ _) ?_
        rw [guard_no rfl]
        simp only [binOp, Op.shift]
        rw [if_neg (by simp)]
        simp only [Sem.run_pure]
        congr 2
        show Int.fdiv _ _ = Int.ofNat (Nat.shiftRight _ _)
        rw [show ∀ p q : Nat, Nat.shiftRight p q = p / 2 ^ q from fun p q => Nat.shiftRight_eq_div_pow p q]
        simp only [Int.ofNat_eq_natCast, Int.toNat_natCast]
        rw [Int.fdiv_eq_ediv_of_nonneg _ (Int.le_of_lt (Int.pow_pos (by decide)))]
        push_cast; rfl
      · cases hz; cases hv; cases hu
        rename_i a b _
        refine .still g hk (.nt _ _) ?_
        rw [guard_no rfl]
        simp only [binOp, Op.shift]
        rw [if_neg (by simp)]
        rfl
      · cases hz
    · cases hz
  | andNot => exact absurd rfl hop
  | eql => cases ho
  | neq => cases ho
  | lss =>
    obtain ⟨z, hz, hk⟩ := oko_inv hk
    obtain ⟨b, hb, rfl⟩ := bBo_inv (o := vlt v u) hz
    exact .still g hk (.bo _) (by rw [guard_no rfl]; exact (a_lt g hv hu hb).1)
  | leq =>
    obtain ⟨z, hz, hk⟩ := oko_inv hk
    obtain ⟨b, hb, rfl⟩ := bNo_inv (o := vlt u v) hz
    exact .still g hk (.bo _) (by rw [guard_no rfl]; exact (a_lt g hu hv hb).2.2.2)
  | gtr =>
    obtain ⟨z, hz, hk⟩ := oko_inv hk
    obtain ⟨b, hb, rfl⟩ := bBo_inv (o := vlt u v) hz
    exact .still g hk (.bo _) (by rw [guard_no rfl]; exact (a_lt g hu hv hb).2.2.1)
  | geq =>
    obtain ⟨z, hz, hk⟩ := oko_inv hk
    obtain ⟨b, hb, rfl⟩ := bNo_inv (o := vlt v u) hz
    exact .still g hk (.bo _) (by rw [guard_no rfl]; exact (a_lt g hv hu hb).2.1)
end
end
end Ev
namespace Ev
noncomputable section
open Go
section
variable {T : Tb} {ρ : Rho} {h : HP} {w : World} {K : Kv} {P : Program} {l : LS} {e : Tr AV}

theorem bits_ofNat {k : IntKind} {n : Nat} (hn : n ≤ mx k) : (BitVec.ofInt k.bits (Int.ofNat n)).toNat = n := by
  simp only [Int.ofNat_eq_natCast, BitVec.ofInt_natCast, BitVec.toNat_ofNat]
  exact Nat.mod_eq_of_lt (by have := mx_lt k; omega)
theorem run_not {k : IntKind} {m n : Nat} (hk : k.signed = false) (hm : mx k = m) (hmax : k.max = Int.ofNat m) (hn : n ≤ m) : (Op.unary .xor (.int k (Int.ofNat n))).run P w = .ok (.int k (Int.ofNat (Nat.xor n m))) w := by
  simp only [Op.unary, hk, Bool.false_eq_true, if_false, hmax]
  have := run_bits (P := P) (w := w) (op := .xor) (f := Nat.xor) (k := k) (a := m) (b := n) (by omega) (by omega) (bits_le xor_lt (by omega) (by omega)) (fun x y => by simp [Op.intBits, BitVec.toNat_xor] <;> rfl)
  rw [this]
  congr 3
  exact Nat.xor_comm m n
theorem a_un (g : Good T ρ h w) {op : UnOp} {v : AV} {x : Value} (hv : VR ρ v x) (hk : oko h K (un op v) = .yes) : AnsQ T P ρ h w K (Op.unary op x) := by
  obtain ⟨z, hz, hk⟩ := oko_inv hk
  unfold un at hz
  split at hz
  · cases hz; cases hv
    exact .still g hk (.bo _) (by rw [bool_not]; rfl)
  · cases hz; cases hv
    exact .still g hk (.nt _ _) rfl
  · unfold unx at hz; rw [bf_if] at hz; split at hz
    · rename_i hn; cases hz; cases hv
      exact .still g hk (.nt _ _) (run_not rfl rfl rfl (by simpa using hn))
    · cases hz
  · unfold unx at hz; rw [bf_if] at hz; split at hz
    · rename_i hn; cases hz; cases hv
      exact .still g hk (.nt _ _) (run_not rfl rfl rfl (by simpa using hn))
    · cases hz
  · unfold unx at hz; rw [bf_if] at hz; split at hz
    · rename_i hn; cases hz; cases hv
      exact .still g hk (.nt _ _) (run_not rfl rfl rfl (by simpa using hn))
    · cases hz
  · cases hz
theorem a_cvi (g : Good T ρ h w) {k : IntKind} {v : AV} {x : Value} (hv : VR ρ v x) (hk : vCvi h K k v = .yes) {src dst : TypeId} {sd : TypeDesc} (hs : P.underlying src = some sd) (hd : P.underlying dst = some (.int k)) : AnsQ T P ρ h w K (convert src dst x) := by
  unfold vCvi at hk
  split at hk
  · cases hv
    refine .still g hk (.nt _ _) ?_
    rw [wr_eq]
    simp only [convert, Sem.run_bind, run_und hs, run_und hd, Result.andThen_ok]
    cases sd <;> rfl
  · exact no_yes hk
theorem a_cvs (g : Good T ρ h w) {v : AV} {x : Value} (hv : VR ρ v x) {n d : Nat} (e : v = .st n d) (hk : K v h = .yes) {src dst : TypeId} (hs : P.underlying src = some .string) (hd : P.underlying dst = some .string) : AnsQ T P ρ h w K (convert src dst x) := by
  subst e; cases hv with
  | st _ _ hd' =>
    refine .still g hk (.st _ _ hd') ?_
    simp only [convert, Sem.run_bind, run_und hs, run_und hd, Result.andThen_ok]; rfl
theorem strOf_vals (n d : Nat) : ((strOf n d).data.map fun (b : UInt8) => Value.int .u8 (b.toNat : Int)).toList = (List.range n).map fun i => Value.int .u8 (Int.ofNat (byt d i)) := by
  rw [Array.toList_map, strOf_data, List.map_map]
  apply List.map_congr_left; intro i _; simp only [Function.comp, byt_toNat]; rfl
theorem freeze_end {r : Nat} {cs : Array Value} {ty : Nat} (hw : w.heap[r]? = some (.cells cs ty (0, 0))) : (markStringish ⟨r, 0, none⟩).run P w = .ok () { w with heap := w.heap.setIfInBounds r (.cells cs ty (cs.size, cs.size + 1)) } := by
  obtain ⟨hlt, he⟩ := Array.getElem?_eq_some_iff.1 hw
  simp only [markStringish, Sem.run_bind, run_shape, Result.andThen_ok, World.shape?, hw, run_freeze, World.freeze, Nat.one_ne_zero, if_false]
  congr 2
  apply Array.ext_getElem?
  intro k
  simp only [Array.getElem?_modify, Array.getElem?_setIfInBounds]
  by_cases hk : r = k
  · subst hk; simp [hw, hlt, he]
  · simp [hk]
theorem a_s2b (g : Good T ρ h w) {v : AV} {x : Value} {el : TypeId} (hv : VR ρ v x) (hk : vS2b h K el v = .yes) {src dst : TypeId} (hs : P.underlying src = some .string) (hd : P.underlying dst = some (.slice el)) (he : P.underlying el = some (.int .u8)) : Ans T P ρ h w K (convert src dst x) := by
  unfold vS2b at hk
  split at hk
  · rename_i n d
    cases hv with
    | st _ _ hd' =>
      obtain ⟨c, hc⟩ : ∃ c, (Question.appendCap n 0 el).cut (w.tape w.drawn (.appendCap n 0 el)) = c ∧ n ≤ c := ⟨_, rfl, Nat.le_add_right _ _⟩
      have hn : ∀ i l', ρ i = some l' → i ≠ h.nx := fun i l' e hi => by have := g.dom i l' e; rw [hi] at this; omega
      let σ : Rho := fun i => if i = h.nx then some ⟨w.heap.size, 0, c⟩ else ρ i
      have hle : ρ.le σ := fun i l' e => by simp [σ, hn i l' e, e]
      have hp := Post.new g (sz := c) (b := .cells (mkb n d .nil) el false false) (o := .cells (((strOf n d).data.map fun (b : UInt8) => Value.int .u8 (b.toNat : Int)) ++ Array.replicate (c - n) (Value.int .u8 0)) el (c, c + 1)) (n := w.drawn + 1)
        (.cells (pre := []) (xs := (List.range n).map fun i => Value.int .u8 (Int.ofNat (byt d i))) (post := List.replicate (c - n) (Value.int .u8 0)) (by rw [Array.toList_append, strOf_vals]; simp) rfl
          (by rw [exp_mkb hd']; simp only [CL.exp, List.append_nil]; exact AL.bys n d) (wf_mkb hd' trivial) (by simp; omega) (fun hx => by cases hx) (fun _ j hj => by
            have : (((strOf n d).data.map fun (b : UInt8) => Value.int .u8 (b.toNat : Int)) ++ Array.replicate (c - n) (Value.int .u8 0)).size = c := by
              rw [← Array.length_toList, Array.toList_append, strOf_vals]; simp; omega
            rw [this] at hj; simp; omega))
      refine ⟨_, _, σ, _, .slice (some ⟨w.heap.size, 0, none⟩) n c, hk, hp, ?_, ?_⟩
      · have := VR.sl (ρ := σ) (a := h.nx) (l := ⟨w.heap.size, 0, c⟩) (off := 0) (len := n) (cap := n) (esz := 1) (c := c) (ex := false) (by simp [σ]) (fun hx => by cases hx) hc.2 (Nat.le_refl _) (by simp)
        simpa using this
      · have hsz : (((strOf n d).data.map fun (b : UInt8) => Value.int .u8 (b.toNat : Int)) ++ Array.replicate (c - n) (Value.int .u8 0)).size = c := by
          rw [← Array.length_toList, Array.toList_append, strOf_vals]; simp; omega
        simp only [convert, Sem.run_bind, run_und hs, run_und hd, run_und he, Result.andThen_ok, Conv.stringToBytes, run_choose, strOf_size, Question.forced, Bool.false_eq_true, if_false, hc.1, newRow, run_newObj, Sem.run_pure]
        rw [freeze_end (cs := ((strOf n d).data.map fun (b : UInt8) => Value.int .u8 (b.toNat : Int)) ++ Array.replicate (c - n) (Value.int .u8 0)) (ty := el) (by simp)]
        simp only [Result.andThen_ok, hsz]
        congr 2
        apply Array.ext_getElem?
        intro k
        simp only [Array.getElem?_setIfInBounds, Array.getElem?_push, Array.size_push]
        by_cases hk : w.heap.size = k
        · subst hk; simp
        · simp [hk, Ne.symm hk]
  · exact no_yes hk
theorem vStr_inv {o : Option (Nat × Nat)} (hk : vStr h K o = .yes) : ∃ n d, o = some (n, d) ∧ K (.st n d) h = .yes := by
  unfold vStr at hk
  split at hk
  · exact ⟨_, _, rfl, hk⟩
  · exact no_yes hk
theorem bytes_inv {c : CV} {n d : Nat} (e : c.bytes = some (n, d)) (hw : c.wf) : c.exp = bys n d ∧ d < 256 ^ n := by
  unfold CL.bytes at e
  split at e
  · cases e; exact ⟨rfl, by simp⟩
  · cases e; exact ⟨by simp [CL.exp], hw.1⟩
  · cases e
theorem AL.bys_eq {n d : Nat} {xs : List Value} (h : AL ρ (Ev.bys n d) xs) : xs = (List.range n).map fun i => Value.int .u8 (Int.ofNat (byt d i)) := by
  unfold Ev.bys at h
  generalize List.range n = l at h
  induction l generalizing xs with
  | nil => cases h; rfl
  | cons i l ih =>
    cases h with
    | cons h t => cases h; simp only [List.map_cons, ih t]
end
end
end Ev
namespace Ev
noncomputable section
open Go
section
variable {T : Tb} {ρ : Rho} {h : HP} {w : World} {K : Kv} {P : Program} {l : LS} {e : Tr AV}

theorem fold_push (is : List Nat) (d : Nat) : ∀ s : ByteArray, (is.map fun i => Int.ofNat (byt d i)).foldl (fun r n => r.push (UInt8.ofNat n.toNat)) s = ⟨s.data ++ (is.map fun i => UInt8.ofNat (byt d i)).toArray⟩ := by
  induction is with
  | nil => intro s; simp
  | cons i is ih =>
    intro s
    simp only [List.map_cons, List.foldl_cons]
    rw [ih]
    congr 1
    apply Array.ext'
    simp [ByteArray.push]
theorem fold_strOf (n d : Nat) : ((List.range n).map fun i => Int.ofNat (byt d i)).foldl (fun r n => r.push (UInt8.ofNat n.toNat)) ByteArray.empty = strOf n d := by
  rw [fold_push]; unfold strOf; congr 1
  rw [show ByteArray.empty.data = (#[] : Array UInt8) from rfl]; simp
/-- what a slice's, or a string's, cells are -/
theorem cells_ok (g : Good T ρ h w) {m : Nat} {v : AV} {x : Value} {Kc : CV → R} (hv : VR ρ v x) (hk : cells? h m Kc v = .yes) :
    ∃ c xs, Kc c = .yes ∧ AL ρ c.exp xs ∧ c.wf ∧ ((∃ a len cap, x = .slice (some a) len cap ∧ xs.length = len * m ∧ (loadCells a (len * m)).run P w = .ok xs.toArray w) ∨ (x = .slice none 0 0 ∧ xs = []) ∨ (∃ n d, x = .string (strOf n d) ∧ d < 256 ^ n ∧ c.exp = bys n d)) := by
  unfold cells? at hk
  split at hk
  · rename_i a off len cap ex esz
    obtain ⟨c, l', xs, hk, hl, hc, hw, hlen, hr⟩ := lds_ok (P := P) g hk
    cases hv with
    | sl h1 h2 h3 h4 h5 =>
      rw [h1] at hl; cases hl
      exact ⟨c, xs, hk, hc, hw, .inl ⟨_, _, _, rfl, hlen, hr⟩⟩
  · cases hv
    exact ⟨_, [], hk, .nil, trivial, .inr (.inl ⟨rfl, rfl⟩)⟩
  · cases hv
    exact ⟨_, [], hk, .nil, trivial, .inl ⟨_, _, _, rfl, by simp, by simp [loadCells, loadCellsFrom]⟩⟩
  · rename_i n d
    cases hv with
    | st _ _ hd =>
      refine ⟨_, (List.range n).map fun i => Value.int .u8 (Int.ofNat (byt d i)), hk, ?_, wf_mkb hd trivial, .inr (.inr ⟨n, d, rfl, hd, ?_⟩)⟩
      · rw [exp_mkb hd]; simp only [CL.exp, List.append_nil]; exact AL.bys n d
      · rw [exp_mkb hd]; simp [CL.exp]
  · exact no_yes hk
theorem a_b2s (g : Good T ρ h w) {v : AV} {x : Value} {el : TypeId} (hv : VR ρ v x) (hns : ∀ s, x ≠ .string s) (hk : cells? h 1 (fun c => vStr h K c.bytes) v = .yes) {src dst : TypeId} (hs : P.underlying src = some (.slice el)) (hd : P.underlying dst = some .string) (he : P.underlying el = some (.int .u8)) : AnsQ T P ρ h w K (convert src dst x) := by
  obtain ⟨c, xs, hk, hc, hw, hx⟩ := cells_ok (P := P) g hv hk
  obtain ⟨n, d, hb, hk⟩ := vStr_inv hk
  obtain ⟨he', hd'⟩ := bytes_inv hb hw
  rw [he'] at hc
  have hxs := AL.bys_eq hc
  rcases hx with ⟨a, len, cap, rfl, hlen, hr⟩ | ⟨rfl, rfl⟩ | ⟨_, _, rfl, _⟩
  · refine .still g hk (.st _ _ hd') ?_
    have := run_bytesToString (P := P) w a len cap ((List.range n).map fun i => Int.ofNat (byt d i)) (by
      rw [Nat.mul_one] at hr; rw [hr, hxs, List.map_map]; rfl)
    rw [fold_strOf] at this
    simp only [convert, Sem.run_bind, run_und hs, run_und hd, run_und he, Result.andThen_ok, this]
  · refine .still g hk (.st _ _ hd') ?_
    have hn : n = 0 := by have := hc.length; simpa using this
    subst hn
    simp only [convert, Sem.run_bind, run_und hs, run_und hd, run_und he, Result.andThen_ok]; rfl
  · exact absurd rfl (hns _)
theorem a_s2ap (g : Good T ρ h w) {v : AV} {x : Value} {n : Nat} {t el : TypeId} (hv : VR ρ v x) (hk : vS2ap h K n v = .yes) (hu : P.underlying t = some (.array n el)) : AnsQ T P ρ h w K (Instr.arrayAt t x) := by
  unfold vS2ap at hk
  split at hk
  · rename_i a off len cap ex esz
    obtain ⟨hle, hk⟩ := bf_yes hk
    have hle : n ≤ len := by simpa using hle
    cases hv with
    | sl h1 h2 h3 h4 h5 =>
      refine .still g hk (.pt off h1) ?_
      simp only [Instr.arrayAt, Sem.run_bind, run_und hu, Result.andThen_ok]
      rw [if_neg (by omega)]; rfl
  · exact no_yes hk
theorem a_mkit (g : Good T ρ h w) {v : AV} {x : Value} {t : TypeId} {d : TypeDesc} (hv : VR ρ v x) (hk : K (.it t v) h = .yes) (hu : P.underlying t = some d) (hd : ∀ ms, d ≠ .interface ms) : AnsQ T P ρ h w K (Instr.makeInterface t x) := by
  refine .still g hk (.it hv) ?_
  simp only [Instr.makeInterface, Sem.run_bind, run_und hu, Result.andThen_ok]
  cases d <;> first | rfl | (exact absurd rfl (hd _))
/-- operands, one by one -/
theorem rds_ok {es : List EO} {xs : List Value} (hx : es.length = xs.length) (hr : ∀ (i : Nat) (v : EO) (x : Value), es[i]? = some v → xs[i]? = some x → VR ρ (rd l e v) x) : AL ρ (rds l e es).exp xs ∧ (rds l e es).wf := by
  induction es generalizing xs with
  | nil => cases xs with | nil => exact ⟨.nil, trivial⟩ | cons => simp at hx
  | cons v es ih =>
    cases xs with
    | nil => simp at hx
    | cons x xs =>
      obtain ⟨h1, h2⟩ := ih (xs := xs) (by simpa using hx) (fun i a b ha hb => hr (i + 1) a b (by simpa using ha) (by simpa using hb))
      exact ⟨.cons (hr 0 v x rfl rfl) h1, h2⟩
theorem a_mkmap (g : Good T ρ h w) (hk : K (.mp h.nx) (h.new (.map [] 0)) = .yes) {t : TypeId} {r : Option Value} (hr : r = none ∨ ∃ a b n k, r = some (.int k n) ∧ P.underlying t = some (.map a b)) : Ans T P ρ h w K (Instr.makeMap t r) := by
  have hp := Post.new g (sz := 0) (b := .map [] 0) (o := .map #[] 0) (n := w.drawn) (.map .nil)
  refine ⟨_, _, _, _, .map (some w.heap.size), hk, hp, ?_, ?_⟩
  · have := VR.mp (ρ := fun i => if i = h.nx then some ⟨w.heap.size, 0, 0⟩ else ρ i) (a := h.nx) (l := ⟨w.heap.size, 0, 0⟩) (by simp)
    simpa using this
  · rcases hr with rfl | ⟨a, b, n, k, rfl, hu⟩
    · simp [Instr.makeMap]
    · simp [Instr.makeMap, run_und hu, asInt, asIntOf]
theorem a_chan (g : Good T ρ h w) {v : AV} {x : Value} (hv : VR ρ v x) (hk : nat v (fun n => bf (Nat.ble n 100000) (K (.ch h.nx) (h.new (.chan n .nil 0 0))) .no) = .yes) {t el : TypeId} {d : ChanDir} {i : TypeInfo} (hu : P.underlying t = some (.chan d el)) (hi : P.info? el = some i) (hb : i.bytes ≤ 1000) : Ans T P ρ h w K (Instr.makeChan t x) := by
  obtain ⟨k, n, rfl, hk⟩ := nat_inv hk
  obtain ⟨hn, hk⟩ := bf_yes' hk
  have hn : n ≤ 100000 := by simpa using hn
  cases hv
  have hp := Post.new g (sz := 0) (b := .chan n .nil 0 0) (o := .chan n #[] false 0 0 false) (n := w.drawn) (.chan .nil trivial)
  refine ⟨_, _, _, _, .chan (some w.heap.size), hk, hp, ?_, ?_⟩
  · have := VR.ch (ρ := fun i => if i = h.nx then some ⟨w.heap.size, 0, 0⟩ else ρ i) (a := h.nx) (l := ⟨w.heap.size, 0, 0⟩) (by simp)
    simpa using this
  · have hmul : (i.bytes : Int) * (n : Int) ≤ 1000 * 100000 := by
      have h1 : i.bytes * n ≤ 1000 * 100000 := Nat.mul_le_mul hb hn
      have h2 : (i.bytes : Int) * (n : Int) = ((i.bytes * n : Nat) : Int) := (Int.natCast_mul _ _).symm
      omega
    simp only [Instr.makeChan, asInt, asIntOf, Sem.run_bind, Sem.run_pure, Result.andThen_ok, run_und hu, run_info hi, Int.ofNat_eq_natCast]
    have hmx : IntKind.i64.max = 9223372036854775807 := by rfl
    rw [if_neg (by rw [hmx]; rintro (h' | h' | h') <;> omega)]
    simp
theorem zeros_exp {z : CV} {zs : List Value} (hz : AL ρ z.exp zs) (hw : z.wf) (n : Nat) : AL ρ (zeros z n).exp ((List.replicate n zs).flatten) ∧ (zeros z n).wf := by
  have hrep : AL ρ (CL.rep z n).exp ((List.replicate n zs).flatten) ∧ (CL.rep z n).wf := by
    induction n with
    | zero => exact ⟨.nil, trivial⟩
    | succ n ih =>
      refine ⟨?_, wf_app ih.2 hw⟩
      show AL ρ (CL.app (CL.rep z n) z).exp _
      rw [exp_app hw, List.replicate_succ, List.flatten_cons]
      exact hz.append ih.1
  unfold zeros
  split
  · rename_i m
    have h0 : (0 : Nat) < 256 ^ (m * n) := pow_pos' _
    refine ⟨?_, wf_mkb h0 trivial⟩
    rw [exp_mkb h0]
    have hz : AL ρ (bys m 0) zs := by simpa [CL.exp] using hz
    show AL ρ (bys (m * n) 0 ++ []) _
    rw [List.append_nil]
    have e : ∀ n, bys (m * n) 0 = (List.replicate n (bys m 0)).flatten := fun n => by
      have hc : ∀ k, bys k 0 = List.replicate k (byA 0 0) := fun k => by
        refine List.eq_replicate_iff.2 ⟨by simp, fun b hb => ?_⟩
        unfold bys at hb
        rw [List.mem_map] at hb
        obtain ⟨i, _, rfl⟩ := hb
        simp [byA, byt]
      induction n with
      | zero => simp [bys]
      | succ n ih => rw [List.replicate_succ, List.flatten_cons, ← ih, hc, hc, hc, Nat.mul_succ, Nat.add_comm, List.replicate_append_replicate]
    rw [e]
    clear hrep e h0
    induction n with
    | zero => exact .nil
    | succ n ih => rw [List.replicate_succ, List.replicate_succ, List.flatten_cons, List.flatten_cons]; exact hz.append ih
  · exact hrep
theorem range_rep (zs : Array Value) (n : Nat) (hz : 0 < zs.size) : ((Array.range (n * zs.size)).map fun i => zs[i % zs.size]!).toList = (List.replicate n zs.toList).flatten := by
  induction n with
  | zero => simp
  | succ n ih =>
    rw [Nat.succ_mul, List.replicate_succ', List.flatten_append, ← ih]
    simp only [Array.toList_map, Array.toList_range, List.range_add, List.map_append, List.map_map, List.flatten_cons, List.flatten_nil, List.append_nil]
    congr 1
    apply List.ext_getElem?
    intro i
    by_cases hi : i < zs.size
    · simp [hi, Nat.mod_eq_of_lt hi]
    · simp [hi]
theorem a_mksl (g : Good T ρ h w) {v u : AV} {x y : Value} {el : TypeId} {m : Nat} {z : CV} (hv : VR ρ v x) (hu : VR ρ u y)
    (hk : nat v (fun n => nat u fun c => bf (Nat.ble n c) (bf (Nat.ble c 10000000) (K (.sl h.nx 0 n c true m) (h.new (.cells (zeros z c) el true false))) .no) .no) = .yes) {t : TypeId} {zv : Value} {i : TypeInfo} (ht : P.underlying t = some (.slice el))
    (hi : P.info? el = some i) (hb : i.bytes ≤ 100000) (hm : i.size = m) (hz : i.zero = some zv) (hzs : zv.cells.size = m) (hm0 : 0 < m) (hzr : AL ρ z.exp zv.cells.toList) (hw : z.wf) : Ans T P ρ h w K (Instr.makeSlice t x y) := by
  obtain ⟨k, n, rfl, hk1⟩ := nat_inv hk
  obtain ⟨j, c, rfl, hk2⟩ := nat_inv hk1
  clear hk hk1
  obtain ⟨hnc, hk2⟩ := bf_yes' hk2
  obtain ⟨hc, hk⟩ := bf_yes' hk2
  have hnc : n ≤ c := by simpa using hnc
  have hc : c ≤ 10000000 := by simpa using hc
  cases hv; cases hu
  obtain ⟨hz1, hz2⟩ := zeros_exp hzr hw c
  obtain ⟨σ, hp, hs⟩ := newRow_ok g hz1 hz2 el true w.drawn
  have hlen : ((List.replicate c zv.cells.toList).flatten).length = c * m := by simp [hzs]
  refine ⟨_, _, σ, _, .slice (some ⟨w.heap.size, 0, none⟩) n c, hk, hp, ?_, ?_⟩
  · have := VR.sl (ρ := σ) (off := 0) (len := n) (cap := c) (esz := m) (c := c) (ex := true) hs (fun _ => rfl) (Nat.le_refl _) hnc (by simp [hlen])
    simpa using this
  · have hzr' : zrOf P el = some zv := by unfold zrOf; rw [hi]; exact hz
    have hsz' : szOf P el = some m := by unfold szOf; rw [hi]; simp [hm]
    have wn : IntKind.i64.wrap (n : Int) = n := wrap_of_le (k := .i64) (m := n) (by show n ≤ 0x7fffffffffffffff; omega)
    have wc : IntKind.i64.wrap (c : Int) = c := wrap_of_le (k := .i64) (m := c) (by show c ≤ 0x7fffffffffffffff; omega)
    have hmul : (i.bytes : Int) * (c : Int) ≤ 100000 * 10000000 := by
      have h1 : i.bytes * c ≤ 100000 * 10000000 := Nat.mul_le_mul hb hc
      have h2 : (i.bytes : Int) * (c : Int) = ((i.bytes * c : Nat) : Int) := (Int.natCast_mul _ _).symm
      omega
    simp only [Instr.makeSlice, asInt, asIntOf, Sem.run_bind, Sem.run_pure, Result.andThen_ok, run_und ht, run_info hi, Int.ofNat_eq_natCast, wn, wc]
    rw [if_neg (by simp; omega)]
    simp only [run_askRoom, Sem.run_bind, Result.andThen_ok, run_size hsz', Int.toNat_natCast]
    by_cases h0 : c * m = 0
    · have hc0 : c = 0 := by rcases Nat.mul_eq_zero.1 h0 with h | h; exact h; omega
      subst hc0
      have he' : ∀ f : Nat → Value, (Array.range 0).map f = #[] := fun f => by apply Array.ext'; simp
      simp [newRow, he']
    · simp only [h0, if_false, Sem.run_bind, run_zero hzr', Result.andThen_ok, Sem.run_pure]
      have := range_rep zv.cells c (by omega)
      rw [hzs] at this
      have e : (Array.range (c * m)).map (fun i => zv.cells[i % zv.cells.size]!) = ((List.replicate c zv.cells.toList).flatten).toArray := by
        apply Array.ext'; rw [hzs]; simpa using this
      simp [newRow, e]
end
end
end Ev
namespace Ev
noncomputable section
open Go
section
variable {T : Tb} {ρ : Rho} {h : HP} {w : World} {K : Kv} {P : Program} {l : LS} {e : Tr AV}

/-- a bound that may be left out -/
def OB (ρ : Rho) (l : LS) (e : Tr AV) : Option EO → Option Value → Prop
  | none, none => True
  | some x, some y => VR ρ (rd l e x) y
  | _, _ => False
theorem onat_inv {d : Nat} {Kn : Nat → R} {o : Option EO} {p : Option Value} (ho : OB ρ l e o p) (hk : onat l e d Kn o = .yes) :
    ∃ n, Kn n = .yes ∧ ((o = none ∧ p = none ∧ n = d) ∨ ∃ k, p = some (.int k (Int.ofNat n))) := by
  cases o with
  | none =>
    cases p with
    | none => exact ⟨d, hk, .inl ⟨rfl, rfl, rfl⟩⟩
    | some y => exact ho.elim
  | some x =>
    cases p with
    | none => exact ho.elim
    | some y =>
      have ho : VR ρ (rd l e x) y := ho
      have hk : nat (rd l e x) Kn = .yes := hk
      obtain ⟨k, n, hr, hk⟩ := nat_inv hk
      rw [hr] at ho; cases ho
      exact ⟨n, hk, .inr ⟨k, rfl⟩⟩
theorem run_bound {k : IntKind} {n y : Nat} {c : BoundsCode} (hn : n ≤ y) : (Instr.sliceBound (.int k (n : Int)) y c).run P w = .ok n w := by
  simp only [Instr.sliceBound, asIntOf, Sem.run_bind, Sem.run_pure, Result.andThen_ok]
  rw [if_pos ⟨by simp, by simpa using hn⟩]; rfl
/-- the three bounds, as the model asks for them -/
theorem run_bounds {is : Bool} {len cap i j x : Nat} {lo hi mx : Option Value} (hlo : (lo = none ∧ i = 0) ∨ ∃ k, lo = some (.int k (Int.ofNat i))) (hhi : (hi = none ∧ j = len) ∨ ∃ k, hi = some (.int k (Int.ofNat j)))
    (hmx : (mx = none ∧ x = cap) ∨ ∃ k, mx = some (.int k (Int.ofNat x))) (h1 : i ≤ j) (h2 : j ≤ x) (h3 : x ≤ cap) (hm : mx.isSome = true → hi.isSome = true) : (Instr.sliceBounds is len cap lo hi mx).run P w = .ok (i, j, x) w := by
  rcases hmx with ⟨rfl, rfl⟩ | ⟨k, rfl⟩
  · rcases hhi with ⟨rfl, rfl⟩ | ⟨k, rfl⟩ <;> rcases hlo with ⟨rfl, rfl⟩ | ⟨k', rfl⟩ <;> simp [Instr.sliceBounds, run_bound h1, run_bound h2]
  · rcases hhi with ⟨rfl, rfl⟩ | ⟨k1, rfl⟩
    · simp at hm
    · rcases hlo with ⟨rfl, rfl⟩ | ⟨k', rfl⟩ <;> simp [Instr.sliceBounds, run_bound h1, run_bound h2, run_bound h3]
theorem ob_lo {d : Nat} {Kn : Nat → R} {o : Option EO} {p : Option Value} (ho : OB ρ l e o p) (hk : onat l e d Kn o = .yes) : ∃ n, Kn n = .yes ∧ ((p = none ∧ n = d) ∨ ∃ k, p = some (.int k (Int.ofNat n))) := by
  obtain ⟨n, h1, h2 | h2⟩ := onat_inv ho hk
  · exact ⟨n, h1, .inl ⟨h2.2.1, h2.2.2⟩⟩
  · exact ⟨n, h1, .inr h2⟩
theorem a_sls (g : Good T ρ h w) {v : AV} {x : Value} {lo hi : Option EO} {plo phi : Option Value} (hv : VR ρ v x) (hlo : OB ρ l e lo plo) (hhi : OB ρ l e hi phi) (hk : vSls l e h K lo hi v = .yes) {t : TypeId} (ht : P.underlying t = some .string) :
    AnsQ T P ρ h w K (Instr.sliceAt t x plo phi none) := by
  unfold vSls at hk
  split at hk
  · rename_i n d
    obtain ⟨i, hk, h1⟩ := ob_lo hlo hk
    obtain ⟨j, hk, h2⟩ := ob_lo hhi hk
    unfold vSub at hk
    obtain ⟨hij, hk⟩ := bf_yes hk
    obtain ⟨hjn, hk⟩ := bf_yes hk
    have hij : i ≤ j := by simpa using hij
    have hjn : j ≤ n := by simpa using hjn
    cases hv with
    | st _ _ hd =>
      refine .still g hk (.st _ _ (low_lt _ _)) ?_
      have := run_bounds (P := P) (w := w) (is := false) (len := n) (cap := n) (mx := none) h1 h2 (.inl ⟨rfl, rfl⟩) hij hjn (Nat.le_refl _) (by simp)
      have e2 : (strOf n d).extract i j = strOf (Nat.sub j i) (low (shr d i) (Nat.sub j i)) := strOf_extract hjn hij
      simp only [Instr.sliceAt, Instr.slice, Sem.run_bind, run_und ht, Result.andThen_ok, strOf_size, this, Option.isSome_none, Bool.false_eq_true, if_false, Sem.run_pure, e2]
  · exact no_yes hk
theorem hasB_ok (g : Good T ρ h w) {a : Ps} {n : Nat} {r : R} (hk : hasB n r (h.get a) = .yes) : (∀ lc, ρ a = some lc → n ≤ lc.size) ∧ r = .yes := by
  unfold hasB at hk
  split at hk
  · rename_i c ty ex lk e
    obtain ⟨hn, hk⟩ := bf_yes' hk
    obtain ⟨l', fz, pre, xs, post, hl, _, _, hx, _, hs, _⟩ := cells_at g e
    refine ⟨fun lc hlc => ?_, hk⟩
    rw [hl] at hlc; cases hlc
    have : n ≤ c.len := by simpa using hn
    rw [exp_len, hx.length] at this
    omega
  · cases hk
theorem a_sla (g : Good T ρ h w) {v : AV} {x : Value} {n m : Nat} {lo hi mx : Option EO} {plo phi pmx : Option Value} (hv : VR ρ v x) (hlo : OB ρ l e lo plo) (hhi : OB ρ l e hi phi) (hmx : OB ρ l e mx pmx) (hmh : pmx.isSome = true → phi.isSome = true)
    (hk : vSla l e h K n m lo hi mx v = .yes) {t el : TypeId} (hm : szOf P el = some m)
    (ht : P.underlying t = some (.array n el) ∨ ∃ u, P.underlying t = some (.pointer u) ∧ P.underlying u = some (.array n el)) : AnsQ T P ρ h w K (Instr.sliceAt t x plo phi pmx) := by
  unfold vSla at hk
  split at hk
  · rename_i a off
    obtain ⟨hsz, hk⟩ := hasB_ok g hk
    obtain ⟨i, hk, h1⟩ := ob_lo hlo hk
    obtain ⟨j, hk, h2⟩ := ob_lo hhi hk
    obtain ⟨c, hk, h3⟩ := ob_lo hmx hk
    unfold vSlx at hk
    obtain ⟨hij, hk⟩ := bf_yes hk
    obtain ⟨hjc, hk⟩ := bf_yes hk
    obtain ⟨hcn, hk⟩ := bf_yes hk
    have hij : i ≤ j := by simpa using hij
    have hjc : j ≤ c := by simpa using hjc
    have hcn : c ≤ n := by simpa using hcn
    cases hv with
    | @pt _ lc _ hl =>
      have hs : off + n * m ≤ lc.size := hsz lc hl
      have hb := run_bounds (P := P) (w := w) (is := false) (len := n) (cap := n) h1 h2 h3 hij hjc hcn hmh
      have hoff : bf (Nat.beq c i) off (Nat.add off (Nat.mul i m)) + (c - i) * m ≤ lc.size := by
        have hle : c * m ≤ n * m := Nat.mul_le_mul_right _ hcn
        rw [bf_if]; split
        · rename_i hci; have : c = i := by simpa using hci
          subst this; simp; omega
        · show off + i * m + (c - i) * m ≤ _
          have : i * m + (c - i) * m = c * m := by rw [← Nat.add_mul]; congr 1; omega
          omega
      refine .still g hk (x := .slice (some (if c = i then ⟨lc.blk, lc.base + off, none⟩ else (⟨lc.blk, lc.base + off, none⟩ : Addr).add (i * m))) (j - i) (c - i)) ?_ ?_
      · have := VR.sl (ρ := ρ) (a := a) (l := lc) (off := bf (Nat.beq c i) off (Nat.add off (Nat.mul i m))) (len := j - i) (cap := c - i) (esz := m) (c := c - i) (ex := true) hl (fun _ => rfl) (Nat.le_refl _) (by omega) hoff
        rw [bf_if] at this
        by_cases hci : c = i
        · simpa [hci] using this
        · have e1 : Nat.beq c i = false := by rw [Bool.eq_false_iff]; exact fun e => hci (Nat.eq_of_beq_eq_true e)
          rw [if_neg hci, add_mk]
          rw [e1] at this
          simpa [Nat.add_assoc, bf_if, hci] using this
      · rcases ht with ht | ⟨u, ht, hu⟩
        · simp only [Instr.sliceAt, Sem.run_bind, run_und ht, Result.andThen_ok, Instr.sureAddr, Sem.run_pure, hb, run_size hm]
        · simp only [Instr.sliceAt, Instr.slice, Sem.run_bind, run_und ht, run_und hu, asAddr, Result.andThen_ok, Sem.run_pure, hb, run_size hm]
  · exact no_yes hk
end
end
end Ev
namespace Ev
noncomputable section
open Go
section
variable {T : Tb} {ρ : Rho} {h : HP} {w : World} {K : Kv} {P : Program} {l : LS} {e : Tr AV}

theorem beq_ne {a b : Nat} (h : a ≠ b) : Nat.beq a b = false := by rw [Bool.eq_false_iff]; exact fun e => h (Nat.eq_of_beq_eq_true e)
theorem beq_self (a : Nat) : Nat.beq a a = true := by simp
theorem slx_ok (g : Good T ρ h w) {a : Ps} {lc : Loc} {off cap cap' m i j c : Nat} (hl : ρ a = some lc) (hs : off + cap' * m ≤ lc.size) (hcc : cap ≤ cap') (hk : vSlx h K a off m cap i j c = .yes) :
    i ≤ j ∧ j ≤ c ∧ c ≤ cap ∧ ∃ v, K v h = .yes ∧ VR ρ v (.slice (some (if c = i then ⟨lc.blk, lc.base + off, none⟩ else (⟨lc.blk, lc.base + off, none⟩ : Addr).add (i * m))) (j - i) (c - i)) := by
  unfold vSlx at hk
  obtain ⟨hij, hk⟩ := bf_yes hk
  obtain ⟨hjc, hk⟩ := bf_yes hk
  obtain ⟨hcn, hk⟩ := bf_yes hk
  have hij : i ≤ j := by simpa using hij
  have hjc : j ≤ c := by simpa using hjc
  have hcn : c ≤ cap := by simpa using hcn
  refine ⟨hij, hjc, hcn, _, hk, ?_⟩
  have hoff : bf (Nat.beq c i) off (Nat.add off (Nat.mul i m)) + (c - i) * m ≤ lc.size := by
    have hle : c * m ≤ cap' * m := Nat.mul_le_mul_right _ (by omega)
    by_cases hci : c = i
    · subst hci; rw [beq_self]; simp; omega
    · rw [beq_ne hci]
      show off + i * m + (c - i) * m ≤ _
      have : i * m + (c - i) * m = c * m := by rw [← Nat.add_mul]; congr 1; omega
      omega
  have := VR.sl (ρ := ρ) (a := a) (l := lc) (off := bf (Nat.beq c i) off (Nat.add off (Nat.mul i m))) (len := j - i) (cap := c - i) (esz := m) (c := c - i) (ex := true) hl (fun _ => rfl) (Nat.le_refl _) (by omega) hoff
  by_cases hci : c = i
  · subst hci
    rw [beq_self] at this ⊢
    simpa using this
  · rw [beq_ne hci] at this ⊢
    rw [if_neg hci, add_mk]
    simpa [Nat.add_assoc] using this
theorem nil0_inv {v : AV} {i j : Nat} (hk : vNil0 h K v i j = .yes) : i = 0 ∧ j = 0 ∧ K v h = .yes := by
  unfold vNil0 at hk
  obtain ⟨hi, hk⟩ := bf_yes hk
  obtain ⟨hj, hk⟩ := bf_yes hk
  exact ⟨by simpa using hi, by simpa using hj, hk⟩
theorem a_slc (g : Good T ρ h w) {v : AV} {x : Value} {m : Nat} {lo hi mx : Option EO} {plo phi pmx : Option Value} (hv : VR ρ v x) (hlo : OB ρ l e lo plo) (hhi : OB ρ l e hi phi) (hmx : OB ρ l e mx pmx) (hmh : pmx.isSome = true → phi.isSome = true)
    (hk : vSlc l e h K m lo hi mx v = .yes) {t el : TypeId} (hm : szOf P el = some m) (ht : P.underlying t = some (.slice el)) : AnsQ T P ρ h w K (Instr.sliceAt t x plo phi pmx) := by
  have hrun : Instr.sliceAt t x plo phi pmx = (do let d ← underlying t; match d with
      | .array n elem => (do
        let a ← Instr.sureAddr x
        let (l, h, m) ← Instr.sliceBounds false n n plo phi pmx
        let size ← Go.sizeOf elem
        pure (.slice (some (if m = l then a else a.add (l * size))) (h - l) (m - l)))
      | _ => Instr.slice t x plo phi pmx : Sem Value) := rfl
  unfold vSlc at hk
  split at hk
  · rename_i a off len cap ex es
    obtain ⟨hes, hk⟩ := bf_yes' hk
    have hes : es = m := by simpa using hes
    subst hes
    obtain ⟨i, hk, h1⟩ := ob_lo hlo hk
    obtain ⟨j, hk, h2⟩ := ob_lo hhi hk
    cases hv with
    | @sl _ lc _ _ _ _ cap' _ hl he hc hle hs =>
      cases mx with
      | none =>
        cases ex with
        | true =>
          have hk : vSlx h K a off es cap i j cap = .yes := hk
          have hcap := he rfl
          subst hcap
          cases pmx with
          | some y => exact hmx.elim
          | none =>
            obtain ⟨hij, hjc, _, v, hk, hv⟩ := slx_ok g hl hs (Nat.le_refl _) hk
            have hb := run_bounds (P := P) (w := w) (is := true) (len := len) (cap := cap') h1 h2 (.inl ⟨rfl, rfl⟩) hij hjc (Nat.le_refl _) (by simp)
            exact .still g hk hv (by simp only [Instr.sliceAt, Instr.slice, Sem.run_bind, run_und ht, Result.andThen_ok, hb, run_size hm, Sem.run_pure]; split <;> rfl)
        | false =>
          have hk : vSlu h K a off es cap i j = .yes := hk
          cases pmx with
          | some y => exact hmx.elim
          | none =>
            unfold vSlu at hk
            obtain ⟨hij, hk⟩ := bf_yes hk
            obtain ⟨hjc, hk⟩ := bf_yes hk
            have hij : i ≤ j := by simpa using hij
            have hjc : j ≤ cap := by simpa using hjc
            have hb := run_bounds (P := P) (w := w) (is := true) (len := len) (cap := cap') h1 h2 (.inl ⟨rfl, rfl⟩) hij (Nat.le_trans hjc hc) (Nat.le_refl _) (by simp)
            have hr : (Instr.sliceAt t (.slice (some ⟨lc.blk, lc.base + off, none⟩) len cap') plo phi none).run P w = .ok (.slice (some (if cap' = i then ⟨lc.blk, lc.base + off, none⟩ else ⟨lc.blk, lc.base + off + i * es, none⟩)) (j - i) (cap' - i)) w := by
              simp only [Instr.sliceAt, Instr.slice, Sem.run_bind, run_und ht, Result.andThen_ok, hb, run_size hm, Sem.run_pure]
              split
              · rename_i hh; simp [hh]
              · rename_i hh; simp [hh, add_mk]
            by_cases hci : cap = i
            · subst hci
              rw [beq_self] at hk
              have hj : j - cap = 0 := by omega
              by_cases h0 : cap = 0
              · subst h0
                rw [beq_self] at hk
                refine .still g hk (VR.sl (l := lc) (off := off) (c := cap') hl (fun hx => by cases hx) (by omega) (by omega) hs) ?_
                rw [hr]
                have : j = 0 := by omega
                subst this
                by_cases hc0 : cap' = 0 <;> simp [hc0]
              · rw [beq_ne h0] at hk
                refine .still g hk (.se (if cap' = cap then ⟨lc.blk, lc.base + off, none⟩ else ⟨lc.blk, lc.base + off + cap * es, none⟩) (cap' - cap)) ?_
                rw [hr, hj]
            · rw [beq_ne hci] at hk
              have hi : i < cap := by omega
              refine .still g hk (VR.sl (l := lc) (off := off + i * es) (c := cap' - i) hl (fun hx => by cases hx) (by show cap - i ≤ cap' - i; omega) (by show j - i ≤ cap - i; omega) ?_) ?_
              · have : i * es + (cap' - i) * es = cap' * es := by rw [← Nat.add_mul]; congr 1; omega
                show off + i * es + (cap' - i) * es ≤ _
                omega
              · rw [hr, if_neg (by omega)]
                show _ = Result.ok (Value.slice (some ⟨lc.blk, lc.base + (off + i * es), none⟩) (j - i) (cap' - i)) w
                rw [Nat.add_assoc]
      | some mx' =>
        have hk : nat (rd l e mx') (fun x => vSlx h K a off es cap i j x) = .yes := by cases ex <;> exact hk
        cases pmx with
        | none => exact hmx.elim
        | some y =>
          have hmx : VR ρ (rd l e mx') y := hmx
          obtain ⟨k, c, hr, hk⟩ := nat_inv hk
          rw [hr] at hmx; cases hmx
          obtain ⟨hij, hjc, hcn, v, hk, hv⟩ := slx_ok g hl hs hc hk
          have hb := run_bounds (P := P) (w := w) (is := true) (len := len) (cap := cap') (mx := some (.int k (Int.ofNat c))) h1 h2 (.inr ⟨k, rfl⟩) hij hjc (by omega) (by simpa using hmh)
          exact .still g hk hv (by simp only [Instr.sliceAt, Instr.slice, Sem.run_bind, run_und ht, Result.andThen_ok, hb, run_size hm, Sem.run_pure]; split <;> rfl)
  · cases hv
    unfold vSl0 at hk
    split at hk
    · cases pmx with
      | some y => exact hmx.elim
      | none =>
        obtain ⟨i, hk, h1⟩ := ob_lo hlo hk
        obtain ⟨j, hk, h2⟩ := ob_lo hhi hk
        obtain ⟨rfl, rfl, hk⟩ := nil0_inv hk
        have hb := run_bounds (P := P) (w := w) (is := true) (len := 0) (cap := 0) h1 h2 (.inl ⟨rfl, rfl⟩) (Nat.le_refl _) (Nat.le_refl _) (Nat.le_refl _) (by simp)
        exact .still g hk .sn (by simp only [Instr.sliceAt, Instr.slice, Sem.run_bind, run_und ht, Result.andThen_ok, hb, run_size hm, Sem.run_pure]; simp)
    · exact no_yes hk
  · unfold vSl0 at hk
    split at hk
    · cases pmx with
      | some y => exact hmx.elim
      | none =>
        obtain ⟨i, hk, h1⟩ := ob_lo hlo hk
        obtain ⟨j, hk, h2⟩ := ob_lo hhi hk
        obtain ⟨rfl, rfl, hk⟩ := nil0_inv hk
        cases hv with
        | se a c =>
          have hb := run_bounds (P := P) (w := w) (is := true) (len := 0) (cap := c) h1 h2 (.inl ⟨rfl, rfl⟩) (Nat.le_refl _) (Nat.zero_le _) (Nat.le_refl _) (by simp)
          refine .still g hk (.se (if c = 0 then a else a.add (0 * m)) (c - 0)) ?_
          simp only [Instr.sliceAt, Instr.slice, Sem.run_bind, run_und ht, Result.andThen_ok, hb, run_size hm, Sem.run_pure]
          split <;> rfl
    · exact no_yes hk
  · exact no_yes hk
end
end
end Ev
namespace Ev
noncomputable section
open Go
section
variable {T : Tb} {ρ : Rho} {h : HP} {w : World} {K : Kv} {P : Program} {l : LS} {e : Tr AV}

theorem a_fa (g : Good T ρ h w) {v : AV} {x : Value} {off f : Nat} (hv : VR ρ v x) (hk : vFa h K off v = .yes) {t : TypeId} {fs : Array Field} {fd : Field} {n : Nat} (ht : P.underlying t = some (.struct fs)) (hf : fs[f]? = some fd) (ho : fd.offset = off) (hs : szOf P fd.type = some n) (hn : n ≠ 0) :
    AnsQ T P ρ h w K (Instr.fieldAt t x f) := by
  unfold vFa at hk
  split at hk
  · rename_i a o
    cases hv with
    | pt _ hl =>
      refine .still g hk (.pt (o + off) hl) ?_
      simp only [Instr.fieldAt, Sem.run_bind, run_und ht, Result.andThen_ok, hf, Instr.sureAddr, Sem.run_pure, fieldPlace, run_size hs, hn, if_false, add_mk, ho, Nat.add_assoc]
  · exact no_yes hk
theorem part_ok (g : Good T ρ h w) {c : CV} {xs : Array Value} {off n : Nat} {ag : Bool} (hc : AL ρ c.exp xs.toList) (hw : c.wf) (hk : vPart h K off n ag (.ag c) = .yes) {t : TypeId} {d : TypeDesc} (hd : P.underlying t = some d) (hag : TypeDesc.ag d = ag) (hs : szOf P t = some n) :
    AnsQ T P ρ h w K (part t xs off) := by
  have hk : bf ag (ldr n (c.sub off n) fun c => K (.ag c) h) (okv (c.nth off) fun v => K v h) = .yes := hk
  cases ag with
  | true =>
    have hk : ldr n (c.sub off n) (fun c => K (.ag c) h) = .yes := hk
    unfold ldr at hk
    obtain ⟨hn, hk⟩ := bf_yes hk
    have hx : AL ρ (c.sub off n).exp (xs.extract off (off + n)).toList := by
      rw [exp_sub, Array.toList_extract]
      simpa using (hc.drop off).take n
    refine .still g hk (.ag hx (wf_sub hw _ _)) ?_
    simp only [part, Sem.run_bind, run_agg hd, Result.andThen_ok, hag, if_true, run_size hs, Sem.run_pure]
  | false =>
    have hk : okv (c.nth off) (fun v => K v h) = .yes := hk
    obtain ⟨hn, hk⟩ := okv_inv hk
    rw [exp_nth] at hn hk
    cases he : c.exp[off]? with
    | none => rw [he] at hn; exact absurd rfl hn
    | some v =>
      rw [he] at hk
      obtain ⟨x, hx, hv⟩ := hc.get he
      refine .still g hk hv ?_
      have hx' : xs[off]? = some x := by simpa using hx
      simp only [part, Sem.run_bind, run_agg hd, Result.andThen_ok, hag, Bool.false_eq_true, if_false, hx']; rfl
theorem a_fld (g : Good T ρ h w) {v : AV} {x : Value} {off n f : Nat} {ag : Bool} (hv : VR ρ v x) (hk : vPart h K off n ag v = .yes) {t : TypeId} {fs : Array Field} {fd : Field} {d : TypeDesc} (ht : P.underlying t = some (.struct fs)) (hf : fs[f]? = some fd) (ho : fd.offset = off)
    (hd : P.underlying fd.type = some d) (hag : TypeDesc.ag d = ag) (hs : szOf P fd.type = some n) : AnsQ T P ρ h w K (Instr.field t x f) := by
  have : ∃ c, v = .ag c := by unfold vPart at hk; split at hk; exact ⟨_, rfl⟩; exact no_yes hk
  obtain ⟨c, rfl⟩ := this
  cases hv with
  | @ag _ xs hc hw =>
    obtain ⟨-, v, y, h1, h3, h4⟩ := part_ok (P := P) g hc hw hk hd hag hs
    refine ⟨g, v, y, h1, h3, ?_⟩
    simp only [Instr.field, Sem.run_bind, run_und ht, Result.andThen_ok, hf, asAgg, Sem.run_pure, ho, h4]
theorem a_ia (g : Good T ρ h w) {v u : AV} {x y : Value} {n m : Nat} (hv : VR ρ v x) (hu : VR ρ u y) (hk : nat u (fun i => vIa h K n m i v) = .yes) {t el : TypeId} (ht : P.underlying t = some (.array n el)) (hs : szOf P el = some m) : AnsQ T P ρ h w K (Instr.indexAt t x y) := by
  obtain ⟨k, i, rfl, hk1⟩ := nat_inv hk
  clear hk
  have hk := hk1
  clear hk1
  unfold vIa at hk
  split at hk
  · rename_i a o
    obtain ⟨hi, hk⟩ := bf_yes hk
    have hi : i < n := by have : i + 1 ≤ n := by simpa using hi
                          omega
    cases hu
    cases hv with
    | pt _ hl =>
      refine .still g hk (.pt (o + i * m) hl) ?_
      simp only [Instr.indexAt, asIntOf, Sem.run_bind, Sem.run_pure, Result.andThen_ok, run_und ht, Instr.sureAddr, Int.ofNat_eq_natCast]
      rw [if_pos ⟨by omega, by omega⟩]
      simp only [Sem.run_bind, run_size hs, Result.andThen_ok, Sem.run_pure, add_mk, Int.toNat_natCast, Nat.add_assoc]
  · exact no_yes hk
theorem a_isl (g : Good T ρ h w) {v u : AV} {x y : Value} {m : Nat} (hv : VR ρ v x) (hu : VR ρ u y) (hk : nat u (fun i => vIsl h K m i v) = .yes) {t el : TypeId} (ht : P.underlying t = some (.slice el)) (hs : szOf P el = some m) : AnsQ T P ρ h w K (Instr.indexAt t x y) := by
  obtain ⟨k, i, rfl, hk1⟩ := nat_inv hk
  clear hk
  have hk := hk1
  clear hk1
  unfold vIsl at hk
  split at hk
  · rename_i a o len cap ex es
    obtain ⟨hi, hk⟩ := bf_yes hk
    have hi : i < len := by have : i + 1 ≤ len := by simpa using hi
                            omega
    cases hu
    cases hv with
    | sl hl _ _ _ _ =>
      refine .still g hk (.pt (o + i * m) hl) ?_
      simp only [Instr.indexAt, asIntOf, Sem.run_bind, Sem.run_pure, Result.andThen_ok, run_und ht, Int.ofNat_eq_natCast]
      rw [if_pos ⟨by omega, by omega⟩]
      simp only [Sem.run_bind, run_size hs, Result.andThen_ok, Sem.run_pure, add_mk, Int.toNat_natCast, Nat.add_assoc]
  · exact no_yes hk
theorem a_ixa (g : Good T ρ h w) {v u : AV} {x y : Value} {n m : Nat} {ag : Bool} (hv : VR ρ v x) (hu : VR ρ u y) (hk : nat u (fun i => bf (Nat.ble (Nat.add i 1) n) (vPart h K (Nat.mul i m) m ag v) (R.of false)) = .yes) {t el : TypeId} {d : TypeDesc} (ht : P.underlying t = some (.array n el)) (hs : szOf P el = some m) (hd : P.underlying el = some d) (hag : TypeDesc.ag d = ag) :
    AnsQ T P ρ h w K (Instr.index t x y) := by
  obtain ⟨k, i, rfl, hk⟩ := nat_inv hk
  obtain ⟨hi, hk⟩ := bf_yes hk
  have hi : i < n := by have : i + 1 ≤ n := by simpa using hi
                        omega
  have : ∃ c, v = .ag c := by unfold vPart at hk; split at hk; exact ⟨_, rfl⟩; exact no_yes hk
  obtain ⟨c, rfl⟩ := this
  cases hu
  cases hv with
  | @ag _ xs hc hw =>
    obtain ⟨-, v, y, h1, h3, h4⟩ := part_ok (P := P) g hc hw hk hd hag hs
    refine ⟨g, v, y, h1, h3, ?_⟩
    simp only [Instr.index, asIntOf, Sem.run_bind, Sem.run_pure, Result.andThen_ok, run_und ht, Int.ofNat_eq_natCast]
    rw [if_pos ⟨by omega, by omega⟩]
    simp only [Sem.run_bind, run_size hs, Result.andThen_ok, Int.toNat_natCast]
    exact h4
theorem a_ixs (g : Good T ρ h w) {v u : AV} {x y : Value} (hv : VR ρ v x) (hu : VR ρ u y) (hk : nat u (fun i => vIxs h K i v) = .yes) {t : TypeId} (ht : P.underlying t = some .string) : AnsQ T P ρ h w K (Instr.index t x y) := by
  obtain ⟨k, i, rfl, hk1⟩ := nat_inv hk
  clear hk
  have hk := hk1
  clear hk1
  unfold vIxs at hk
  split at hk
  · rename_i n d
    obtain ⟨hi, hk⟩ := bf_yes hk
    have hi : i < n := by have : i + 1 ≤ n := by simpa using hi
                          omega
    rw [low_shr] at hk
    cases hu
    cases hv with
    | st _ _ hd =>
      refine .still g hk (.nt _ _) ?_
      have e := strOf_get (d := d) hi
      simp only [Instr.index, asIntOf, Sem.run_bind, Sem.run_pure, Result.andThen_ok, run_und ht, Int.ofNat_eq_natCast, Int.toNat_natCast]
      rw [if_pos (by omega), e]
      simp only [byt_toNat]; rfl
  · exact no_yes hk
theorem a_ext (g : Good T ρ h w) {v : AV} {x : Value} {i : Nat} (hv : VR ρ v x) (hk : vExt h K i v = .yes) : AnsQ T P ρ h w K (Instr.extract x i) := by
  unfold vExt at hk
  split at hk
  · rename_i c
    obtain ⟨hi, hk⟩ := bf_yes' hk
    cases hv with
    | @tu _ xs hc hw =>
      have hi : i < c.exp.length := by
        rw [exp_len] at hi
        have : i + 1 ≤ c.exp.length := by simpa using hi
        omega
      obtain ⟨y, hy, hv⟩ := hc.get (List.getElem?_eq_getElem hi)
      rw [exp_nth, List.getElem?_eq_getElem hi] at hk
      refine .still g hk hv ?_
      have : xs[i]? = some y := by simpa using hy
      simp only [Instr.extract, this]; rfl
  · exact no_yes hk
theorem a_lenA (g : Good T ρ h w) {n : Nat} (hk : K (goi n) h = .yes) {t ty : TypeId} {x : Value} {ts : Array TypeId} {xs : Array Value} (h0 : ts[0]? = some t) (h1 : xs[0]? = some x) (ht : (∃ el, P.underlying t = some (.array n el)) ∨ ∃ u el, P.underlying t = some (.pointer u) ∧ P.underlying u = some (.array n el)) : AnsQ T P ρ h w K (Builtin.len_ ts ty xs) := by
  refine .still g hk (.nt _ _) ?_
  rcases ht with ⟨el, ht⟩ | ⟨u, el, ht, hu⟩
  · simp only [Builtin.len_, h0, h1, Sem.run_bind, run_und ht, Result.andThen_ok]; rfl
  · simp only [Builtin.len_, h0, h1, Sem.run_bind, run_und ht, run_und hu, Result.andThen_ok]; rfl
theorem map_at (g : Good T ρ h w) {a : Ps} {m : List (AV × AV × Nat)} {c : Nat} (he : h.get a = .map m c) : ∃ lc es, ρ a = some lc ∧ w.heap[lc.blk]? = some (.map es c) ∧ ML ρ m es.toList := by
  obtain ⟨lc, o, hl, ho, hb⟩ := g.blk a (by unfold HP.live; rw [he]; intro h; cases h)
  rw [he] at hb
  cases hb with
  | map hm => exact ⟨lc, _, hl, ho, hm⟩
theorem chan_at (g : Good T ρ h w) {a : Ps} {cap s r : Nat} {b : CV} (he : h.get a = .chan cap b s r) : ∃ lc arr, ρ a = some lc ∧ w.heap[lc.blk]? = some (.chan cap arr false s r false) ∧ AL ρ b.exp arr.toList ∧ b.wf := by
  obtain ⟨lc, o, hl, ho, hb⟩ := g.blk a (by unfold HP.live; rw [he]; intro h; cases h)
  rw [he] at hb
  cases hb with
  | chan hm hw => exact ⟨lc, _, hl, ho, hm, hw⟩
theorem ML.length {m : List (AV × AV × Nat)} {es : List MapEntry} (hm : ML ρ m es) : m.length = es.length := by
  induction hm with
  | nil => rfl
  | cons _ _ _ ih => simp [ih]
theorem run_getObj {r : Nat} {o : Obj} (ho : w.heap[r]? = some o) (hc : ∀ a b c, o ≠ .cells a b c) : (getObj r).run P w = .ok o w := by
  simp only [getObj, Sem.run, ho]
theorem a_lenS (g : Good T ρ h w) {v : AV} {x : Value} (hv : VR ρ v x) (hk : vLenS h K v = .yes) {t ty : TypeId} {ts : Array TypeId} {xs : Array Value} (h0 : ts[0]? = some t) (h1 : xs[0]? = some x) (ht : P.underlying t = some .string) : AnsQ T P ρ h w K (Builtin.len_ ts ty xs) := by
  unfold vLenS at hk
  split at hk
  · cases hv with
    | st _ _ hd => exact .still g hk (.nt _ _) (by simp only [Builtin.len_, h0, h1, Sem.run_bind, run_und ht, Result.andThen_ok, strOf_size]; rfl)
  · cases hk
theorem a_lenL (g : Good T ρ h w) {v : AV} {x : Value} (hv : VR ρ v x) (hk : vLenL h K v = .yes) {t ty el : TypeId} {ts : Array TypeId} {xs : Array Value} (h0 : ts[0]? = some t) (h1 : xs[0]? = some x) (ht : P.underlying t = some (.slice el)) : AnsQ T P ρ h w K (Builtin.len_ ts ty xs) := by
  unfold vLenL at hk
  split at hk <;> first | (cases hk; done) | (cases hv <;> exact .still g hk (.nt _ _) (by simp only [Builtin.len_, h0, h1, Sem.run_bind, run_und ht, Result.andThen_ok]; rfl))
theorem a_lenM (g : Good T ρ h w) {v : AV} {x : Value} (hv : VR ρ v x) (hk : vLenM h K v = .yes) {t ty a b : TypeId} {ts : Array TypeId} {xs : Array Value} (h0 : ts[0]? = some t) (h1 : xs[0]? = some x) (ht : P.underlying t = some (.map a b)) : AnsQ T P ρ h w K (Builtin.len_ ts ty xs) := by
  unfold vLenM at hk
  split at hk
  · cases hv; exact .still g hk (.nt _ _) (by simp only [Builtin.len_, h0, h1, Sem.run_bind, run_und ht, Result.andThen_ok]; rfl)
  · unfold vLenMB at hk
    split at hk
    · rename_i m c he
      obtain ⟨lc, es, hl, ho, hm⟩ := map_at g he
      cases hv with
      | mp hl' =>
        rw [hl] at hl'; cases hl'
        refine .still g hk (.nt _ _) ?_
        simp only [Builtin.len_, h0, h1, Sem.run_bind, run_und ht, Result.andThen_ok, run_getObj ho (by simp), Sem.run_pure, hm.length]
        (try simp [goInt])
    · cases hk
  · cases hk
theorem a_lenC (g : Good T ρ h w) {v : AV} {x : Value} (hv : VR ρ v x) (hk : vLenC h K v = .yes) {t ty b : TypeId} {d : ChanDir} {ts : Array TypeId} {xs : Array Value} (h0 : ts[0]? = some t) (h1 : xs[0]? = some x) (ht : P.underlying t = some (.chan d b)) : AnsQ T P ρ h w K (Builtin.len_ ts ty xs) := by
  unfold vLenC at hk
  split at hk
  · cases hv; exact .still g hk (.nt _ _) (by simp only [Builtin.len_, h0, h1, Sem.run_bind, run_und ht, Result.andThen_ok]; rfl)
  · unfold vLenCB at hk
    split at hk
    · rename_i cap bb s r he
      obtain ⟨lc, arr, hl, ho, hm, _⟩ := chan_at g he
      cases hv with
      | ch hl' =>
        rw [hl] at hl'; cases hl'
        refine .still g hk (.nt _ _) ?_
        simp only [Builtin.len_, h0, h1, Sem.run_bind, run_und ht, Result.andThen_ok, run_getObj ho (by simp), Sem.run_pure, exp_len, hm.length]
        (try simp [goInt])
    · cases hk
  · cases hk
theorem a_cap (g : Good T ρ h w) {v : AV} {x : Value} (hv : VR ρ v x) (hk : vCap h K v = .yes) {t ty el : TypeId} {ts : Array TypeId} {xs : Array Value} (h0 : ts[0]? = some t) (h1 : xs[0]? = some x) (ht : P.underlying t = some (.slice el)) : AnsQ T P ρ h w K (Builtin.cap_ ts ty xs) := by
  unfold vCap at hk
  split at hk
  · cases hv with
    | sl _ he _ _ _ =>
      have := he rfl
      subst this
      exact .still g hk (.nt _ _) (by simp only [Builtin.cap_, h0, h1, Sem.run_bind, run_und ht, Result.andThen_ok]; rfl)
  · cases hv; exact .still g hk (.nt _ _) (by simp only [Builtin.cap_, h0, h1, Sem.run_bind, run_und ht, Result.andThen_ok]; rfl)
  · exact no_yes hk
theorem a_mnx (g : Good T ρ h w) {v u : AV} {x y : Value} {mx : Bool} (hv : VR ρ v x) (hu : VR ρ u y) (hk : vMnx h K mx v u = .yes) {ts : Array TypeId} {ty : TypeId} : AnsQ T P ρ h w K (if mx then Builtin.max_ ts ty #[x, y] else Builtin.min_ ts ty #[x, y]) := by
  unfold vMnx at hk
  split at hk
  · obtain ⟨hkj, hk1⟩ := bf_yes hk
    clear hk
    rw [kkE_iff] at hkj; subst hkj
    cases hv; cases hu
    refine .still g hk1 (.nt _ _) ?_
    cases mx
    · simp [Builtin.min_, Builtin.min2, bf_if, ilt_eq]
    · simp [Builtin.max_, Builtin.max2, bf_if, ilt_eq]
  · exact no_yes hk
theorem a_usd (g : Good T ρ h w) {v : AV} {x : Value} (hv : VR ρ v x) (hk : vUsd h K v = .yes) {ts : Array TypeId} {ty : TypeId} : AnsQ T P ρ h w K (Builtin.unsafeSliceData_ ts ty #[x]) := by
  unfold vUsd at hk
  split at hk
  · cases hv; exact .still g hk .pn rfl
  · rename_i a off len cap ex es
    rw [bf_if] at hk; split at hk
    · exact no_yes hk
    · rename_i hc
      have hc : cap ≠ 0 := by simpa using hc
      cases hv with
      | sl hl _ h2 _ _ =>
        refine .still g hk (.pt off hl) ?_
        have e : ∀ (A : Addr) (n c : Nat), Builtin.unsafeSliceData_ ts ty #[.slice (some A) n c] = (if c ≠ 0 then pure (.pointer (some A)) else (do if (← viewAt A.block).isSome then pure (.pointer (some A)) else pure (.pointer (some ⟨← newObj (.view A (← elemOf ty)), 0, none⟩))) : Sem Value) := fun _ _ _ => rfl
        rw [e, if_pos (by omega)]; rfl
  · exact no_yes hk
end
end
end Ev
namespace Ev
noncomputable section
open Go
section
variable {T : Tb} {ρ : Rho} {h : HP} {w : World} {K : Kv} {P : Program} {l : LS} {e : Tr AV}

/-! ### append, copy, clear -/
theorem ln_inv {v : AV} {x : Value} {Kn : Nat → R} (hv : VR ρ v x) (hk : ln Kn v = .yes) (hm : v ≠ .mn) (hc : v ≠ .cn) : ∃ n, Kn n = .yes ∧ ((∃ a c, x = .slice a n c) ∨ ∃ d, x = .string (strOf n d)) := by
  unfold ln at hk
  split at hk
  · cases hv with
    | st _ _ hd => exact ⟨_, hk, .inr ⟨_, rfl⟩⟩
  · cases hv with
    | sl => exact ⟨_, hk, .inl ⟨_, _, rfl⟩⟩
  · cases hv; exact ⟨_, hk, .inl ⟨_, _, rfl⟩⟩
  · cases hv; exact ⟨_, hk, .inl ⟨_, _, rfl⟩⟩
  · exact absurd rfl hm
  · exact absurd rfl hc
  · exact no_yes hk
theorem run_lenOf {x : Value} {n : Nat} (hx : (∃ a c, x = .slice a n c) ∨ ∃ d, x = .string (strOf n d)) : (Builtin.lenOf x).run P w = .ok n w := by
  rcases hx with ⟨a, c, rfl⟩ | ⟨d, rfl⟩
  · rfl
  · simp [Builtin.lenOf, strOf_size]
/-- what a source's first cells are -/
theorem src_ok (g : Good T ρ h w) {m n : Nat} {v : AV} {x : Value} {Kc : CV → R} (hv : VR ρ v x) (hn : (∃ a c, x = .slice a n c) ∨ ∃ d, x = .string (strOf n d)) (hk : cells? h m Kc v = .yes) (h1 : (∃ d, x = .string d) → m = 1) :
    ∃ c xs, Kc c = .yes ∧ AL ρ c.exp xs ∧ c.wf ∧ xs.length = n * m ∧ ∀ k ≤ n, ∀ dr, (Builtin.firstCells m k x).run P { w with drawn := dr } = .ok (xs.take (k * m)).toArray { w with drawn := dr } := by
  unfold cells? at hk
  split at hk
  · rename_i a off len cap ex esz
    cases hv with
    | @sl _ lc _ _ _ _ c' _ hl h2 h3 h4 h5 =>
      have hlen : n = len := by rcases hn with ⟨_, _, e⟩ | ⟨_, e⟩ <;> cases e; rfl
      subst hlen
      unfold lds ldsB at hk
      split at hk
      · rename_i c ty ex lk he
        unfold ldr at hk
        obtain ⟨hcn, hk⟩ := bf_yes hk
        obtain ⟨l', fz, pre, xs, post, hl', hw, hp, hx, hwf, _, _, _⟩ := cells_at g he
        rw [hl] at hl'; cases hl'
        have hal : AL ρ (c.sub off (Nat.mul n m)).exp ((xs.drop off).take (n * m)) := by rw [exp_sub]; exact (hx.drop off).take _
        have hlen : ((xs.drop off).take (n * m)).length = n * m := by
          have : (c.sub off (Nat.mul n m)).len = Nat.mul n m := by simpa using hcn
          rw [exp_len, hal.length] at this; exact this
        refine ⟨_, _, hk, hal, wf_sub hwf _ _, hlen, fun k hkn dr => ?_⟩
        have hle : k * m ≤ n * m := Nat.mul_le_mul_right _ hkn
        have := run_sub (P := P) (w := { w with drawn := dr }) hw hp off (k * m) (by
          have h6 : ((xs.drop off).take (n * m)).length ≤ (xs.drop off).length := by simp [Nat.min_le_right]
          rw [List.length_take, Nat.min_eq_left]; omega)
        rw [List.take_take, Nat.min_eq_left hle]
        exact this
      · exact no_yes hk
  · cases hv
    have hn0 : n = 0 := by rcases hn with ⟨_, _, e⟩ | ⟨_, e⟩ <;> cases e; rfl
    subst hn0
    exact ⟨_, [], hk, .nil, trivial, by simp, fun k _ _ => by simp [Builtin.firstCells]⟩
  · cases hv
    have hn0 : n = 0 := by rcases hn with ⟨_, _, e⟩ | ⟨_, e⟩ <;> cases e; rfl
    subst hn0
    exact ⟨_, [], hk, .nil, trivial, by simp, fun k hk _ => by
      have : k = 0 := by omega
      subst this; simp [Builtin.firstCells, loadCells, loadCellsFrom]⟩
  · rename_i n' d
    cases hv with
    | st _ _ hd =>
      have hm := h1 ⟨_, rfl⟩
      subst hm
      have hn' : n' = n := by
        rcases hn with ⟨_, _, e⟩ | ⟨d', e⟩
        · cases e
        · have := congrArg (fun v => match v with | .string s => s.size | _ => 0) e
          simpa [strOf_size] using this
      subst hn'
      refine ⟨_, (List.range n').map fun i => Value.int .u8 (Int.ofNat (byt d i)), hk, ?_, wf_mkb hd trivial, by simp, fun k hkn dr => ?_⟩
      · rw [exp_mkb hd]; simp only [CL.exp, List.append_nil]; exact AL.bys n' d
      · simp only [Builtin.firstCells, Sem.run_pure]
        congr 1
        apply Array.ext'
        have e : (strOf n' d).extract 0 k = strOf k (low d k) := by
          have := strOf_extract (n := n') (d := d) (l := 0) (m := k) hkn (Nat.zero_le _)
          rw [this]; simp [shr_eq]
        rw [e, strOf_vals]
        simp only [Nat.mul_one]
        apply List.ext_getElem?
        intro i
        by_cases hi : i < k
        · simp [hi, List.getElem?_take, show i < n' from by omega, byt_low hi]
        · simp [hi, List.getElem?_take]
  · exact no_yes hk
theorem growBy_le (n : Nat) : ∀ (r c : Nat), Builtin.growBy n r c ≤ Nat.max c (n + (n + 768) / 4)
  | 0, c => Nat.le_max_left _ _
  | r + 1, c => by
    unfold Builtin.growBy
    split
    · exact Nat.le_max_left _ _
    · have := growBy_le n r (c + (c + 768) / 4)
      refine Nat.le_trans this ?_
      apply Nat.max_le.2
      constructor
      · refine Nat.le_trans ?_ (Nat.le_max_right _ _); omega
      · exact Nat.le_max_right _ _
theorem next_le {n c : Nat} (hc : c ≤ n) : Builtin.nextslicecap n c ≤ 2 * n + 200 := by
  unfold Builtin.nextslicecap
  split
  · omega
  · split
    · omega
    · have := growBy_le n 4 c
      have : Nat.max c (n + (n + 768) / 4) ≤ 2 * n + 200 := Nat.max_le.2 ⟨by omega, by omega⟩
      omega
/-- a slice that has no room: a new row -/
theorem grow_ok (g : Good T ρ h w) {m n len cap : Nat} {ty : TypeId} {s x : Value} {base : Option Addr} {c d : CV} {xs ys : List Value} {zv : Value} {i : TypeInfo} {ts : Array TypeId} {t0 t1 tr : TypeId} {d1 : TypeDesc}
    (hs : s = .slice base len cap) (ht0 : ts[0]? = some t0) (ht1 : ts[1]? = some t1) (hu : P.underlying t0 = some (.slice ty)) (hu1 : P.underlying t1 = some d1) (hd1 : ∀ k, d1 ≠ .int k)
    (hi : P.info? ty = some i) (him : i.size = m) (hib : i.bytes ≤ 100000) (hib0 : i.bytes ≠ 0) (hz : i.zero = some zv) (hzs : zv.cells.size = m)
    (hn : (∃ a c, x = .slice a n c) ∨ ∃ d, x = .string (strOf n d)) (hgt : ¬ (len + n ≤ cap)) (hle : len + n ≤ 1000000)
    (hold : (Builtin.firstCells m len s).run P { w with drawn := w.drawn + 1 } = .ok ys.toArray { w with drawn := w.drawn + 1 }) (hnew : (Builtin.firstCells m n x).run P { w with drawn := w.drawn + 1 } = .ok xs.toArray { w with drawn := w.drawn + 1 })
    (hd : AL ρ d.exp ys) (hdw : d.wf) (hc : AL ρ c.exp xs) (hcw : c.wf) (hly : ys.length = len * m) (hlx : xs.length = n * m) (hk : K (.sl h.nx 0 (len + n) (len + n) false m) (h.new (.cells (CL.app c d) ty false false)) = .yes) :
    Ans T P ρ h w K (Builtin.append_ ts tr #[s, x]) := by
  subst hs
  obtain ⟨q, hq, hqge⟩ : ∃ q, (Question.appendCap (len + n) cap ty).cut (w.tape w.drawn (.appendCap (len + n) cap ty)) = q ∧ len + n ≤ q := ⟨_, rfl, Nat.le_add_right _ _⟩
  let rest := Builtin.zeroCells zv.cells (q - (len + n))
  have hrest : rest.size = (q - (len + n)) * m := by simp [rest, Builtin.zeroCells, hzs]
  have hne : ∀ i l', ρ i = some l' → i ≠ h.nx := fun i l' e hi => by have := g.dom i l' e; rw [hi] at this; omega
  let σ : Rho := fun i => if i = h.nx then some ⟨w.heap.size, 0, q * m⟩ else ρ i
  have hle' : ρ.le σ := fun i l' e => by simp [σ, hne i l' e, e]
  have hsize : (len + n) * m + (q - (len + n)) * m = q * m := by rw [← Nat.add_mul]; congr 1; omega
  have hp := Post.new g (sz := q * m) (b := .cells (CL.app c d) ty false false) (o := .cells (ys.toArray ++ xs.toArray ++ rest) ty) (n := w.drawn + 1)
    (.cells (pre := []) (xs := ys ++ xs) (post := rest.toList) (by simp) rfl (by rw [exp_app hdw]; exact (hd.append hc).mono hle') (wf_app hcw hdw)
      (by simp [hly, hlx, hrest]; rw [← hsize, Nat.add_mul]) (fun hx => by cases hx) (fun _ j _ => by simp))
  refine ⟨_, _, σ, _, .slice (some ⟨w.heap.size, 0, none⟩) (len + n) q, hk, hp, ?_, ?_⟩
  · have := VR.sl (ρ := σ) (a := h.nx) (l := ⟨w.heap.size, 0, q * m⟩) (off := 0) (len := len + n) (cap := len + n) (esz := m) (c := q) (ex := false) (by simp [σ]) (fun hx => by cases hx) hqge (Nat.le_refl _) (by simp)
    simpa using this
  · have hzr : zrOf P ty = some zv := by unfold zrOf; rw [hi]; exact hz
    have hsz : szOf P ty = some m := by unfold szOf; rw [hi]; simp [him]
    have hint : (match d1 with | .int _ => true | _ => false) = false := by cases d1 <;> first | rfl | (exact absurd rfl (hd1 _))
    have hcap : Builtin.nextslicecap (len + n) cap * i.bytes ≤ 2 ^ 48 := by
      have h1 := next_le (n := len + n) (c := cap) (by omega)
      calc Builtin.nextslicecap (len + n) cap * i.bytes ≤ (2 * 1000000 + 200) * 100000 := Nat.mul_le_mul (by omega) hib
        _ ≤ 2 ^ 48 := by decide
    simp only [Builtin.append_, ht0, ht1, List.getElem?_toArray, List.getElem?_cons_zero, List.getElem?_cons_succ, Sem.run_bind, run_und hu, run_und hu1, Result.andThen_ok, run_size hsz, Sem.run_pure, hint, Bool.false_eq_true, if_false, run_lenOf hn, hgt, run_info hi, false_or, hib0, and_false, Nat.not_lt.2 hcap, gt_iff_lt, run_choose, Question.forced, hq, run_askRoom]
    simp only [hold, hnew, Result.andThen_ok, Bool.not_false, if_true, run_zero hzr, newRow, run_newObj, Sem.run_bind, Sem.run_pure]
    rfl
end
end
end Ev
namespace Ev
noncomputable section
open Go
section
variable {T : Tb} {ρ : Rho} {h : HP} {w : World} {K : Kv} {P : Program} {l : LS} {e : Tr AV}

/-- in place: room there is, whether it is known or not -/
theorem append_in {m n len cap : Nat} {ty : TypeId} {s x : Value} {base : Option Addr} {xs : List Value} {ts : Array TypeId} {t0 t1 tr : TypeId} {d1 : TypeDesc} {u : World}
    (hs : s = .slice base len cap) (ht0 : ts[0]? = some t0) (ht1 : ts[1]? = some t1) (hu : P.underlying t0 = some (.slice ty)) (hu1 : P.underlying t1 = some d1) (hd1 : ∀ k, d1 ≠ .int k)
    (hsz : szOf P ty = some m) (hn : (∃ a c, x = .slice a n c) ∨ ∃ d, x = .string (strOf n d)) (hle : len + n ≤ cap) (hnew : (Builtin.firstCells m n x).run P w = .ok xs.toArray w)
    (hst : match base with | none => u = w | some a => (storeCells (a.add (len * m)) xs).run P w = .ok () u) : (Builtin.append_ ts tr #[s, x]).run P w = .ok (.slice base (len + n) cap) u := by
  subst hs
  have hint : (match d1 with | .int _ => true | _ => false) = false := by cases d1 <;> first | rfl | (exact absurd rfl (hd1 _))
  simp only [Builtin.append_, ht0, ht1, List.getElem?_toArray, List.getElem?_cons_zero, List.getElem?_cons_succ, Sem.run_bind, run_und hu, run_und hu1, Result.andThen_ok, run_size hsz, Sem.run_pure, hint, Bool.false_eq_true, if_false, run_lenOf hn, hle, if_true, Bool.not_false]
  rw [hnew]
  cases base with
  | none => simp only [Result.andThen_ok, Sem.run_bind, Sem.run_pure]; rw [hst]
  | some a => simp only [Result.andThen_ok, Sem.run_bind, hst, Sem.run_pure]
/-- the ambiguous one: in place, under a new name -/
theorem amb_ok (g : Good T ρ h w) {a : Ps} {lc : Loc} {off len n m cap' : Nat} {c d : CV} {ty : TypeId} {ex : Bool} {xs : List Value} (he : h.get a = .cells d ty ex false) (hl : ρ a = some lc) (hs : off + cap' * m ≤ lc.size) (hle : len + n ≤ cap')
    (hc : AL ρ c.exp xs) (hcw : c.wf) (hlx : xs.length = n * m) (hsto : c.sto = true) (hoff : off + len * m ≤ d.len) :
    ∃ u, (storeCells ⟨lc.blk, lc.base + off + len * m, none⟩ xs).run P w = .ok () u ∧
      Post T ρ h w (fun i => if i = h.nx then some ⟨lc.blk, lc.base + off, lc.size - off⟩ else ρ i) (HP.new (h.put a .dead) (.cells (CL.app c (d.sub off (len * m))) ty false false)) u := by
  obtain ⟨l', fz, pre, zs, post, hl', hw, hp, hx, hwf, hsz, _, hfz⟩ := cells_at g he
  rw [hl] at hl'; cases hl'
  have hfz := hfz rfl
  have hoff : off + len * m ≤ zs.length := by rwa [exp_len, hx.length] at hoff
  have hmul : (len + n) * m ≤ cap' * m := Nat.mul_le_mul_right _ hle
  rw [Nat.add_mul] at hmul
  -- the row, in its parts
  let R := zs.drop (off + len * m) ++ post
  have hR : n * m ≤ R.length := by simp [R]; omega
  have hzs : pre ++ zs ++ post = (pre ++ zs.take off ++ (zs.drop off).take (len * m)) ++ R.take (n * m) ++ R.drop (n * m) := by
    have e1 : zs = zs.take off ++ ((zs.drop off).take (len * m) ++ zs.drop (off + len * m)) := by
      rw [← List.drop_drop, List.take_append_drop, List.take_append_drop]
    have e2 : R.take (n * m) ++ R.drop (n * m) = R := List.take_append_drop _ _
    rw [List.append_assoc (pre ++ zs.take off ++ (zs.drop off).take (len * m)), e2]
    conv => lhs; rw [e1]
    simp [R]
  have hal : AL ρ (d.sub off (len * m)).exp ((zs.drop off).take (len * m)) := by rw [exp_sub]; exact (hx.drop off).take _
  have hlo : ((zs.drop off).take (len * m)).length = len * m := by rw [List.length_take, List.length_drop]; omega
  have hwz : w.heap[lc.blk]? = some (.cells ((pre ++ zs.take off ++ (zs.drop off).take (len * m)) ++ R.take (n * m) ++ R.drop (n * m)).toArray ty fz) := by rw [hw, hzs]
  have hst := run_storeCells' (P := P) (b := lc.blk) (o := lc.base + off + len * m) (ty := ty) (fz := fz) xs (pre ++ zs.take off ++ (zs.drop off).take (len * m)) (R.take (n * m)) (R.drop (n * m)) 0 w
    (by simp only [List.length_append, hlo, List.length_take, hp]; omega) (by rw [List.length_take, hlx]; omega) hwz (by rw [← hzs]; exact hfz) (sto_one hc (sto_exp hsto))
  refine ⟨_, hst, ?_⟩
  have hlt : lc.blk < w.heap.size := (Array.getElem?_eq_some_iff.1 hw).1
  have hla : h.live a := live_cells he
  have hane : a ≠ h.nx := fun e' => by have := g.dom a lc hl; rw [e'] at this; omega
  have hne : ∀ i l', ρ i = some l' → i ≠ h.nx := fun i l' e hi => by have := g.dom i l' e; rw [hi] at this; omega
  have hget : ∀ i, (HP.new (h.put a .dead) (.cells (CL.app c (d.sub off (len * m))) ty false false)).get i = if i = h.nx then .cells (CL.app c (d.sub off (len * m))) ty false false else if i = a then .dead else h.get i := fun i => by
    rw [get_new, get_put]; rfl
  have hlive : ∀ i, i ≠ h.nx → (HP.new (h.put a .dead) (.cells (CL.app c (d.sub off (len * m))) ty false false)).live i → i ≠ a ∧ h.live i := fun i hi hh => by
    unfold HP.live at hh ⊢; rw [hget, if_neg hi] at hh
    split at hh
    · exact absurd rfl hh
    · rename_i hia; exact ⟨hia, hh⟩
  have hleσ : ρ.le (fun i => if i = h.nx then some ⟨lc.blk, lc.base + off, lc.size - off⟩ else ρ i) := fun i l' e => by simp [hne i l' e, e]
  refine ⟨hleσ, ⟨fun i hi => ?_, fun i j l' k' hi hj ei ej eb => ?_, fun i l' ei => ?_⟩, ?_, fun i l' ei hi => ?_, by simp, fun r hr hf => ?_, fun i l' hi ei => ?_, rfl, rfl, rfl⟩
  · by_cases hin : i = h.nx
    · subst hin
      refine ⟨⟨lc.blk, lc.base + off, lc.size - off⟩, .cells ((pre ++ zs.take off ++ (zs.drop off).take (len * m)) ++ xs ++ R.drop (n * m)).toArray ty fz, by simp, by simp [Array.getElem?_setIfInBounds, hlt], ?_⟩
      rw [hget, if_pos rfl]
      refine .cells (pre := pre ++ zs.take off) (xs := (zs.drop off).take (len * m) ++ xs) (post := R.drop (n * m)) (by simp) (by simp only [List.length_append, List.length_take, hp]; show _ = lc.base + off; omega) ?_ (wf_app hcw (wf_sub hwf _ _)) ?_ (fun hx => by cases hx) (fun _ j hj => ?_)
      · rw [exp_app (wf_sub hwf _ _)]; exact (hal.append hc).mono hleσ
      · show lc.size - off = _
        simp only [List.length_append, hlo, hlx, List.length_drop, R]; omega
      · refine hfz j ?_
        rw [hzs]
        simp only [List.size_toArray, List.length_append, List.length_take, hlx] at hj ⊢
        omega
    · obtain ⟨hia, hli⟩ := hlive i hin hi
      obtain ⟨l', o', e', ho', hb'⟩ := g.blk i hli
      refine ⟨l', o', by simp [hin, e'], ?_, by rw [hget, if_neg hin, if_neg hia]; exact hb'.mono hleσ⟩
      have : lc.blk ≠ l'.blk := fun eb => hia (g.inj i a l' lc hli hla e' hl eb.symm)
      simp [Array.getElem?_setIfInBounds, this, ho']
  · by_cases hin : i = h.nx
    · by_cases hjn : j = h.nx
      · rw [hin, hjn]
      · obtain ⟨hja, hlj⟩ := hlive j hjn hj
        simp [hin] at ei; simp [hjn] at ej
        subst ei
        exact absurd (g.inj j a k' lc hlj hla ej hl eb.symm) hja
    · obtain ⟨hia, hli⟩ := hlive i hin hi
      by_cases hjn : j = h.nx
      · simp [hjn] at ej; simp [hin] at ei
        subst ej
        exact absurd (g.inj i a l' lc hli hla ei hl eb) hia
      · obtain ⟨_, hlj⟩ := hlive j hjn hj
        simp [hin] at ei; simp [hjn] at ej
        exact g.inj i j l' k' hli hlj ei ej eb
  · show i.num < h.nx.succ.num
    rw [Ps.num_succ]
    by_cases hin : i = h.nx
    · subst hin; omega
    · simp [hin] at ei; have := g.dom i l' ei; omega
  · show h.nx.num ≤ h.nx.succ.num; rw [Ps.num_succ]; omega
  · have : i ≠ h.nx := fun e' => by subst e'; omega
    simpa [this] using ei
  · have : lc.blk ≠ r := hf a lc hla hl
    simp [Array.getElem?_setIfInBounds, this]
  · by_cases hin : i = h.nx
    · simp [hin] at ei; subst ei; exact .inl ⟨a, lc, hla, hl, rfl⟩
    · simp [hin] at ei
      exact .inl ⟨i, l', (hlive i hin hi).2, ei, rfl⟩
theorem Post.drop (g : Good T ρ h w) (a : Ps) : Post T ρ h w ρ (h.put a .dead) w := by
  have hlive : ∀ i, (h.put a .dead).live i → i ≠ a ∧ h.live i := fun i hi => by
    unfold HP.live at *; rw [get_put] at hi; split at hi
    · exact absurd rfl hi
    · rename_i hia; exact ⟨hia, hi⟩
  refine ⟨Rho.le_refl _, ⟨fun i hi => ?_, fun i j l k hi hj => g.inj i j l k (hlive i hi).2 (hlive j hj).2, g.dom⟩, Nat.le_refl _, fun _ _ e _ => e, Nat.le_refl _, fun _ _ _ => rfl, fun i l hi e => .inl ⟨i, l, (hlive i hi).2, e, rfl⟩, rfl, rfl, rfl⟩
  obtain ⟨l', o, h1, h2, h3⟩ := g.blk i (hlive i hi).2
  exact ⟨l', o, h1, h2, by rw [get_put, if_neg (hlive i hi).1]; exact h3⟩
theorem old_ok (g : Good T ρ h w) {a : Ps} {lc : Loc} {off len m cap : Nat} {d : CV} {ty : TypeId} {ex lk : Bool} (he : h.get a = .cells d ty ex lk) (hl : ρ a = some lc) (hlen : (d.sub off (len * m)).len = len * m) (dr : Nat) :
    ∃ ys, AL ρ (d.sub off (len * m)).exp ys ∧ (d.sub off (len * m)).wf ∧ ys.length = len * m ∧ (Builtin.firstCells m len (.slice (some ⟨lc.blk, lc.base + off, none⟩) len cap)).run P { w with drawn := dr } = .ok ys.toArray { w with drawn := dr } := by
  obtain ⟨l', fz, pre, zs, post, hl', hw, hp, hx, hwf, _, _, _⟩ := cells_at g he
  rw [hl] at hl'; cases hl'
  have hal : AL ρ (d.sub off (len * m)).exp ((zs.drop off).take (len * m)) := by rw [exp_sub]; exact (hx.drop off).take _
  have hle : ((zs.drop off).take (len * m)).length = len * m := by rw [exp_len, hal.length] at hlen; exact hlen
  exact ⟨_, hal, wf_sub hwf _ _, hle, run_sub (P := P) (w := { w with drawn := dr }) hw hp off (len * m) hle⟩
theorem a_app (g : Good T ρ h w) {m : Nat} {v u : AV} {x s : Value} {ty : TypeId} {zv : Value} {i : TypeInfo} {ts : Array TypeId} {t0 t1 tr : TypeId} {d1 : TypeDesc} (hs : VR ρ u s) (hv : VR ρ v x)
    (ht0 : ts[0]? = some t0) (ht1 : ts[1]? = some t1) (hu : P.underlying t0 = some (.slice ty)) (hu1 : P.underlying t1 = some d1) (hd1 : ∀ k, d1 ≠ .int k)
    (hi : P.info? ty = some i) (him : i.size = m) (hib : i.bytes ≤ 100000) (hib0 : i.bytes ≠ 0) (hz : i.zero = some zv) (hzs : zv.cells.size = m) (hm1 : (∃ d, x = .string d) → m = 1) (hm : v ≠ .mn) (hc : v ≠ .cn)
    (hk : ln (fun n => cells? h m (fun c => appTo h ty m n c K u) v) v = .yes) : Ans T P ρ h w K (Builtin.append_ ts tr #[s, x]) := by
  have hsz : szOf P ty = some m := by unfold szOf; rw [hi]; simp [him]
  obtain ⟨n, hk1, hn⟩ := ln_inv hv hk hm hc
  clear hk
  obtain ⟨c, xs, hk, hc, hcw, hlx, hnew⟩ := src_ok (P := P) g hv hn hk1 hm1
  clear hk1
  have hnew1 := hnew n (Nat.le_refl _) (w.drawn + 1)
  have hnew0 := hnew n (Nat.le_refl _) w.drawn
  rw [List.take_of_length_le (by omega)] at hnew0 hnew1
  have hnew0 : (Builtin.firstCells m n x).run P w = .ok xs.toArray w := hnew0
  unfold appTo at hk
  split at hk
  · -- nil
    cases hs
    rw [bf_if] at hk
    split at hk
    · rename_i h0
      have h0 : n = 0 := by simpa using h0
      subst h0
      exact .still g hk .sn (append_in (u := w) rfl ht0 ht1 hu hu1 hd1 hsz hn (Nat.le_refl _) hnew0 rfl)
    · rename_i h0
      have h0 : n ≠ 0 := by simpa using h0
      obtain ⟨hle, hk⟩ := bf_yes' hk
      have hle : n ≤ 1000000 := by simpa using hle
      have := grow_ok (P := P) (c := c) (d := .nil) (xs := xs) (ys := []) (s := .slice none 0 0) (len := 0) (cap := 0) (base := none) (tr := tr) g rfl ht0 ht1 hu hu1 hd1 hi him hib hib0 hz hzs hn (by omega) (by omega) (by simp [Builtin.firstCells]) hnew1 .nil trivial hc hcw (by simp) hlx
        (by simpa [app_nil] using hk)
      exact this
  · rename_i a off len cap ex es
    obtain ⟨hes, hk1⟩ := bf_yes' hk
    clear hk
    have hes : es = m := by simpa using hes
    subst hes
    have hk := hk1
    clear hk1
    cases hs with
    | @sl _ lc _ _ _ _ cap' _ hl he hc' hl' hss =>
      unfold appSl at hk
      rw [bf_if] at hk
      split at hk
      · rename_i hin
        have hin : len + n ≤ cap := by simpa using hin
        obtain ⟨l2, hl2, hlen2, k, w', hk, hp, hst⟩ := stc_ok (P := P) g hc hcw hk
        rw [hl] at hl2; cases hl2
        refine ⟨_, k, ρ, w', _, hk, hp, .sl (l := lc) (c := cap') hl he hc' hin hss, ?_⟩
        refine append_in (u := w') rfl ht0 ht1 hu hu1 hd1 hsz hn (by omega) hnew0 ?_
        show (storeCells ((⟨lc.blk, lc.base + off, none⟩ : Addr).add (len * es)) xs).run P w = _
        rw [add_mk, Nat.add_assoc]; exact hst
      · rename_i hin
        have hin : ¬ (len + n ≤ cap) := by simpa using hin
        obtain ⟨hmax, hk⟩ := bf_yes' hk
        have hmax : len + n ≤ 1000000 := by simpa using hmax
        cases ex with
        | true =>
          have hcap := he rfl
          subst hcap
          have hk : appN h ty es a off len n c K = .yes := hk
          unfold appN lds ldsB at hk
          split at hk
          · rename_i d ty' ex' lk' hge
            unfold ldr at hk
            obtain ⟨hlen, hk⟩ := bf_yes hk
            obtain ⟨ys, hy, hyw, hly, hold⟩ := old_ok (P := P) (cap := cap') g hge hl (by simpa using hlen) (w.drawn + 1)
            exact grow_ok (P := P) (tr := tr) g rfl ht0 ht1 hu hu1 hd1 hi him hib hib0 hz hzs hn hin hmax hold hnew1 hy hyw hc hcw hly hlx hk
          · exact no_yes hk
        | false =>
          have hk : appA h ty es a off len n c K (h.get a) = .yes := hk
          unfold appA at hk
          split at hk
          · rename_i d ty' ex' hge
            obtain ⟨hty, hk⟩ := bf_yes' hk
            obtain ⟨hoff, hk⟩ := bf_yes' hk
            obtain ⟨hsto, hk⟩ := bf_yes' hk
            unfold ldr at hk
            obtain ⟨hlen, hk⟩ := bf_yes hk
            have hty : ty' = ty := by simpa using hty
            subst hty
            have hoff : off + len * es ≤ d.len := by simpa using hoff
            by_cases hroom : len + n ≤ cap'
            · obtain ⟨u', hst, hp⟩ := amb_ok (P := P) g hge hl hss hroom hc hcw hlx hsto hoff
              refine ⟨_, _, _, u', .slice (some ⟨lc.blk, lc.base + off, none⟩) (len + n) cap', hk, hp, ?_, ?_⟩
              · have := VR.sl (ρ := fun i => if i = h.nx then some ⟨lc.blk, lc.base + off, lc.size - off⟩ else ρ i) (a := h.nx) (l := ⟨lc.blk, lc.base + off, lc.size - off⟩) (off := 0) (len := len + n) (cap := len + n) (esz := es) (c := cap') (ex := false) (by simp) (fun hx => by cases hx) hroom (Nat.le_refl _) (by show 0 + cap' * es ≤ lc.size - off; omega)
                simpa using this
              · refine append_in (u := u') rfl ht0 ht1 hu hu1 hd1 hsz hn hroom hnew0 ?_
                show (storeCells ((⟨lc.blk, lc.base + off, none⟩ : Addr).add (len * es)) xs).run P w = _
                rw [add_mk]; exact hst
            · obtain ⟨ys, hy, hyw, hly, hold⟩ := old_ok (P := P) (cap := cap') g hge hl (by simpa using hlen) (w.drawn + 1)
              have hpd := Post.drop g a
              obtain ⟨z, k, σ, u', x', h1, h2, h3, h4⟩ := grow_ok (P := P) (tr := tr) hpd.good rfl ht0 ht1 hu hu1 hd1 hi him hib hib0 hz hzs hn hroom hmax hold hnew1 hy hyw hc hcw hly hlx hk
              exact ⟨z, k, σ, u', x', h1, hpd.trans h2, h3, h4⟩
          · cases hk
  · rw [bf_if] at hk
    split at hk
    · rename_i h0
      have h0 : n = 0 := by simpa using h0
      subst h0
      cases hs with
      | se a c' =>
        have hxs : xs = [] := by cases xs with | nil => rfl | cons => simp at hlx
        subst hxs
        exact .still g hk (.se a c') (append_in (u := w) rfl ht0 ht1 hu hu1 hd1 hsz hn (by omega) hnew0 rfl)
    · exact no_yes hk
  · exact no_yes hk
end
end
end Ev
namespace Ev
noncomputable section
open Go
section
variable {T : Tb} {ρ : Rho} {h : HP} {w : World} {K : Kv} {P : Program} {l : LS} {e : Tr AV}

theorem a_copy (g : Good T ρ h w) {m : Nat} {v u : AV} {x s : Value} {ty : TypeId} {ts : Array TypeId} {t0 tr : TypeId} (hd : VR ρ u s) (hv : VR ρ v x) (ht0 : ts[0]? = some t0) (hu : P.underlying t0 = some (.slice ty)) (hsz : szOf P ty = some m)
    (hm1 : (∃ d, x = .string d) → m = 1) (hm : v ≠ .mn) (hc : v ≠ .cn)
    (hk : ln (fun n => ln (fun k => cells? h m (fun c => vCopyT h K (Nat.min k n) (Nat.mul (Nat.min k n) m) c u) v) v) u = .yes) (hum : u ≠ .mn) (huc : u ≠ .cn) (hus : ∀ d, s ≠ .string d) : Ans T P ρ h w K (Builtin.copy_ ts tr #[s, x]) := by
  obtain ⟨n, hk1, hn⟩ := ln_inv hd hk hum huc
  obtain ⟨k, hk2, hkx⟩ := ln_inv hv hk1 hm hc
  obtain ⟨c, xs, hk3, hc', hcw, hlx, hnew⟩ := src_ok (P := P) g hv hkx hk2 hm1
  clear hk hk1 hk2
  have hnew0 := hnew (Nat.min k n) (Nat.min_le_left _ _) w.drawn
  have hnew0 : (Builtin.firstCells m (Nat.min k n) x).run P w = .ok (xs.take (Nat.min k n * m)).toArray w := hnew0
  obtain ⟨base, cap, rfl⟩ : ∃ base cap, s = .slice base n cap := by
    rcases hn with ⟨a, c, e⟩ | ⟨d, e⟩
    · exact ⟨a, c, e⟩
    · exact absurd e (hus _)
  have hrun : ∀ u', (match base with | none => u' = w | some a => (storeCells a (xs.take (Nat.min k n * m))).run P w = .ok () u') → (Builtin.copy_ ts tr #[.slice base n cap, x]).run P w = .ok (goInt (Nat.min k n)) u' := fun u' hst => by
    simp only [Builtin.copy_, ht0, List.getElem?_toArray, List.getElem?_cons_zero, List.getElem?_cons_succ, Sem.run_bind, run_und hu, Result.andThen_ok, run_lenOf hkx, run_size hsz, hnew0]
    cases base with
    | none => simp only [Sem.run_pure]; rw [hst]
    | some a => simp only [Sem.run_bind, hst, Result.andThen_ok, Sem.run_pure]
  have hal : AL ρ (c.take (Nat.mul (Nat.min k n) m)).exp (xs.take (Nat.min k n * m)) := by rw [exp_take]; exact hc'.take _
  unfold vCopyT at hk3
  split at hk3
  · rename_i a off len cap' ex es
    cases hd with
    | @sl _ lc _ _ _ _ _ _ hl _ _ _ _ =>
      obtain ⟨l2, hl2, hlen2, k', w', hk', hp, hst⟩ := stc_ok (P := P) g hal (wf_take hcw _) hk3
      rw [hl] at hl2; cases hl2
      exact ⟨_, k', ρ, w', _, hk', hp, .nt _ _, hrun w' hst⟩
  · cases hd
    have : Nat.min k 0 = 0 := Nat.min_zero k
    exact .still g hk3 (.nt _ _) (by rw [hrun w rfl, this]; rfl)
  · cases hd with
    | se a c2 =>
      have h0 : Nat.min k 0 = 0 := Nat.min_zero k
      exact .still g hk3 (.nt _ _) (by rw [hrun w (by rw [h0]; simp; rfl), h0]; rfl)
  · exact no_yes hk3
theorem a_clrs (g : Good T ρ h w) {m : Nat} {u : AV} {s : Value} {ty : TypeId} {ts : Array TypeId} {t0 tr : TypeId} {z : CV} {zv : Value} (hd : VR ρ u s) (ht0 : ts[0]? = some t0) (hu : P.underlying t0 = some (.slice ty)) (hz : zrOf P ty = some zv) (hzs : zv.cells.size = m) (hm0 : 0 < m)
    (hzr : AL ρ z.exp zv.cells.toList) (hw : z.wf) (hk : vClrs h K m z u = .yes) : Ans T P ρ h w K (Builtin.clear_ ts tr #[s]) := by
  have hun : VR ρ (.tu .nil) (.tuple #[]) := .tu .nil trivial
  have hex : (∃ el, P.underlying t0 = some (.slice el)) := ⟨_, hu⟩
  unfold vClrs at hk
  split at hk
  · cases hd
    exact .still g hk hun (by simp [Builtin.clear_, ht0, run_und hu])
  · cases hd
    exact .still g hk hun (by simp [Builtin.clear_, ht0, run_und hu])
  · rename_i a off len cap ex es
    cases hd with
    | @sl _ lc _ _ _ _ c' _ hl _ _ _ _ =>
      obtain ⟨hz1, hz2⟩ := zeros_exp hzr hw len
      obtain ⟨l2, hl2, hlen2, k', w', hk', hp, hst⟩ := stc_ok (P := P) g hz1 hz2 hk
      rw [hl] at hl2; cases hl2
      refine ⟨_, k', ρ, w', _, hk', hp, hun, ?_⟩
      have e : (Builtin.zeroCells zv.cells len).toList = (List.replicate len zv.cells.toList).flatten := by
        have := range_rep zv.cells len (by omega)
        exact this
      by_cases h0 : len = 0
      · subst h0
        have hst' : w' = w := by simpa [storeCells] using hst.symm
        subst hst'
        simp [Builtin.clear_, ht0, run_und hu]
      · obtain ⟨q, rfl⟩ : ∃ q, len = q + 1 := ⟨len - 1, by omega⟩
        simp only [Builtin.clear_, ht0, List.getElem?_toArray, List.getElem?_cons_zero, Sem.run_bind, run_und hu, Result.andThen_ok, run_zero hz]
        rw [e, hst]; rfl
  · exact no_yes hk

/-! ### maps -/
theorem baEq (a b : ByteArray) : (a == b) = true ↔ a = b := by
  rw [beq_toListBytes, bytes_toList, bytes_toList, beq_iff_eq]
  exact ⟨fun hh => ByteArray.ext (Array.ext' hh), fun hh => by rw [hh]⟩
/-- a map's keys: which kind, and how they are compared -/
inductive QK : TypeDesc → Kq → Prop
  | int (k : IntKind) : QK (.int k) keyI
  | str : QK .string keyS
  | bool : QK .bool keyB
theorem same_ok {d : TypeDesc} {q : Kq} (hq : QK d q) {k k' : AV} {x x' : Value} {b : Bool} (hk : VR ρ k x) (hk' : VR ρ k' x') (e : q k k' = some b) : Instr.sameNow d x x' = some b ∧ (b = true → Instr.sameBits 10000 x' x = true) := by
  cases hq with
  | int kk =>
    unfold keyI at e
    split at e
    · rw [bf_if] at e; split at e
      · rename_i hkj; rw [kkE_iff] at hkj; subst hkj
        cases e; cases hk; cases hk'
        rw [iEq_eq]
        refine ⟨by simp [Instr.sameNow], fun hb => ?_⟩
        simp only [beq_iff_eq] at hb; subst hb
        simp [Instr.sameBits]
      · cases e
    · cases e
  | str =>
    unfold keyS at e
    split at e
    · cases e
      cases hk with
      | st _ _ ha =>
        cases hk' with
        | st _ _ hb =>
          rename_i n a m c
          have e1 : bf (Nat.beq n m) (Nat.beq a c) false = (strOf n a == strOf m c) := by
            rw [Bool.eq_iff_iff, baEq, strOf_inj ha hb, bf_if]
            by_cases h1 : n = m
            · subst h1; simp
            · simp [h1]
          rw [e1]
          refine ⟨rfl, fun hb => ?_⟩
          rw [baEq] at hb
          rw [hb]
          show (_ == _) = true
          rw [baEq]
    · cases e
  | bool =>
    unfold keyB at e
    split at e
    · cases e; cases hk; cases hk'
      rw [bool_eq]
      refine ⟨rfl, fun hb => ?_⟩
      rw [beq_iff_eq] at hb
      simp [Instr.sameBits, hb]
    · cases e
theorem find_ok {d : TypeDesc} {q : Kq} (hq : QK d q) {k : AV} {x : Value} (hk : VR ρ k x) {N : R} : ∀ {m : List (AV × AV × Nat)} {es : List MapEntry} {Kf : Nat → AV → Nat → R} (i0 : Nat), ML ρ m es → findM q k N Kf m = .yes →
    (N = .yes ∧ Instr.findNow d x es i0 = some none) ∨ ∃ j k' v b en, Kf j v b = .yes ∧ m[j]? = some (k', v, b) ∧ es[j]? = some en ∧ en.born = b ∧ VR ρ v en.val ∧ Instr.findNow d x es i0 = some (some (i0 + j, en.val)) ∧ Instr.sameBits 10000 en.key x = true
  | _, _, Kf, i0, .nil, hf => .inl ⟨hf, rfl⟩
  | _, _, Kf, i0, @ML.cons _ k1 v b y z r es hk1 hv1 t, hf => by
    unfold findM at hf
    split at hf
    · rename_i e
      obtain ⟨h1, h2⟩ := same_ok hq hk hk1 e
      exact .inr ⟨0, k1, v, b, _, hf, rfl, rfl, rfl, hv1, by simp [Instr.findNow, h1], h2 rfl⟩
    · rename_i e
      obtain ⟨h1, _⟩ := same_ok hq hk hk1 e
      rcases find_ok hq hk (i0 + 1) t hf with ⟨h3, h4⟩ | ⟨j, k', v', b', en, h3, h4, h5, h6, h7, h8, h9⟩
      · exact .inl ⟨h3, by simp [Instr.findNow, h1, h4]⟩
      · exact .inr ⟨j + 1, k', v', b', en, h3, by simpa using h4, by simpa using h5, h6, h7, by simp [Instr.findNow, h1, h8]; omega, h9⟩
    · exact no_yes hf
theorem run_key {d : TypeDesc} {q : Kq} (hq : QK d q) {kt : TypeId} {x : Value} {b : Bool} (ht : P.underlying kt = some d) : (Instr.checkKey b 10000 kt x).run P w = .ok () w := by
  have key : ∀ n, (Instr.checkKey b (n + 1) kt x).run P w = .ok () w := fun n => by
    simp only [Instr.checkKey, Sem.run_bind, run_und ht, Result.andThen_ok]
    cases hq <;> rfl
  exact key 9999
theorem pair_ok {ok b : Bool} {v : AV} {x : Value} (hv : VR ρ v x) : VR ρ (pair ok v b) (if ok then .tuple #[x, .bool b] else x) := by
  unfold pair; rw [bf_if]
  cases ok
  · simpa using hv
  · simp only [if_true]
    exact .tu (.cons hv (.cons (.bo b) .nil)) trivial
theorem a_lk (g : Good T ρ h w) {d : TypeDesc} {q : Kq} (hq : QK d q) {u k z : AV} {s x zv : Value} {ok : Bool} {mt kt el : TypeId} (hs : VR ρ u s) (hx : VR ρ k x) (ht : P.underlying mt = some (.map kt el)) (hkt : P.underlying kt = some d) (hz : zrOf P el = some zv) (hzr : VR ρ z zv)
    (hk : vLk h K q z ok k u = .yes) : AnsQ T P ρ h w K (Instr.lookup mt s x ok) := by
  unfold vLk at hk
  split at hk
  · cases hs
    refine .still g hk (pair_ok (b := false) hzr) ?_
    simp [Instr.lookup, run_und ht, run_key hq hkt, Instr.findKey, run_und hkt, Instr.findNow, run_zero hz]
    (try (cases ok <;> rfl))
  · unfold vLkB at hk
    split at hk
    · rename_i m c he
      obtain ⟨lc, es, hl, ho, hm⟩ := map_at g he
      cases hs with
      | mp hl' =>
        rw [hl] at hl'; cases hl'
        rcases find_ok hq hx 0 hm hk with ⟨hN, hf⟩ | ⟨j, k', v, b, en, hK, _, _, _, hv, hf, _⟩
        · refine .still g hN (pair_ok (b := false) hzr) ?_
          simp [Instr.lookup, run_und ht, run_getObj ho (by simp), run_key hq hkt, Instr.findKey, run_und hkt, hf, run_zero hz]
          (try (cases ok <;> rfl))
        · refine .still g hK (pair_ok (b := true) hv) ?_
          simp [Instr.lookup, run_und ht, run_getObj ho (by simp), run_key hq hkt, Instr.findKey, run_und hkt, hf]
          (try (cases ok <;> rfl))
    · exact no_yes hk
  · exact no_yes hk
end
end
end Ev
