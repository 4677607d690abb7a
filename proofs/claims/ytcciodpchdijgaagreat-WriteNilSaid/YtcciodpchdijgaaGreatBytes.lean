/- Plain words on bytes: numbers in bytes, a piece laid over others, an area with a directory, a page. No program is named here. -/
namespace Go.Proofs.YtcciodpchdijgaaGreat.Sp

abbrev Bs := List UInt8

/-- n in k bytes, the highest first. -/
def be : Nat → Nat → Bs
  | 0, _ => []
  | k + 1, n => be k (n / 256) ++ [UInt8.ofNat n]

/-- the number that stands there. -/
def num (l : Bs) : Nat := l.foldl (fun a b => a * 256 + b.toNat) 0

@[simp] theorem be_length : ∀ (k n : Nat), (be k n).length = k
  | 0, _ => rfl
  | k + 1, n => by simp [be, be_length k]

theorem be_get : ∀ (k n j : Nat), j < k → (be k n)[j]? = some (UInt8.ofNat (n / 256 ^ (k - 1 - j)))
  | 0, _, _, h => absurd h (by omega)
  | k + 1, n, j, h => by
    rw [be]
    rcases Nat.lt_or_ge j k with hj | hj
    · rw [List.getElem?_append_left (by simpa using hj), be_get k _ j hj, Nat.div_div_eq_div_mul]
      have : 256 * 256 ^ (k - 1 - j) = 256 ^ (k + 1 - 1 - j) := by
        rw [Nat.mul_comm, ← Nat.pow_succ]; congr 1; omega
      rw [this]
    · obtain rfl : j = k := by omega
      rw [List.getElem?_append_right (by simp)]
      simp

theorem num_snoc (l : Bs) (b : UInt8) : num (l ++ [b]) = num l * 256 + b.toNat := by simp [num]

theorem num_be : ∀ (k n : Nat), num (be k n) = n % 256 ^ k
  | 0, n => by simp [be, num, Nat.mod_one]
  | k + 1, n => by
    rw [be, num_snoc, num_be k, Nat.pow_succ, UInt8.toNat_ofNat']
    rw [Nat.mul_comm (256 ^ k) 256, Nat.mod_mul]
    omega

theorem num_be_lt {k n : Nat} (h : n < 256 ^ k) : num (be k n) = n := by rw [num_be, Nat.mod_eq_of_lt h]

theorem num_lt : ∀ (l : Bs), num l < 256 ^ l.length := by
  intro l
  suffices h : ∀ m (l : Bs), l.length = m → num l < 256 ^ m from h _ l rfl
  intro m
  induction m with
  | zero => intro l h; rw [List.eq_nil_of_length_eq_zero h]; simp [num]
  | succ m ih =>
    intro l h
    have hne : l ≠ [] := by rintro rfl; simp at h
    obtain ⟨l', b, rfl⟩ : ∃ l' b, l = l' ++ [b] := ⟨l.dropLast, l.getLast hne, (List.dropLast_concat_getLast hne).symm⟩
    rw [num_snoc, Nat.pow_succ]
    have h1 := ih l' (by simpa using h)
    have h2 := b.toNat_lt
    omega

theorem be_num : ∀ (m : Nat) (l : Bs), l.length = m → be m (num l) = l
  | 0, l, h => by rw [List.eq_nil_of_length_eq_zero h]; rfl
  | m + 1, l, h => by
    have hne : l ≠ [] := by rintro rfl; simp at h
    obtain ⟨l', b, rfl⟩ : ∃ l' b, l = l' ++ [b] := ⟨l.dropLast, l.getLast hne, (List.dropLast_concat_getLast hne).symm⟩
    have hb := b.toNat_lt
    rw [num_snoc, be]
    have e1 : (num l' * 256 + b.toNat) / 256 = num l' := by omega
    rw [e1, be_num m l' (by simpa using h)]
    congr 2
    apply UInt8.toNat_inj.1
    rw [UInt8.toNat_ofNat']
    omega

/-- a piece laid over others, from a place on. -/
def patch (l : Bs) (at_ : Nat) (p : Bs) : Bs := l.take at_ ++ p ++ l.drop (at_ + p.length)

theorem patch_length {l : Bs} {k : Nat} {p : Bs} (h : k + p.length ≤ l.length) : (patch l k p).length = l.length := by
  simp [patch]; omega

theorem patch_mid {x y z p : Bs} {k : Nat} (hk : k = x.length) (hp : p.length = y.length) : patch (x ++ y ++ z) k p = x ++ p ++ z := by
  subst hk
  unfold patch
  rw [List.append_assoc x y z, List.take_left, hp]
  congr 1
  rw [show x ++ (y ++ z) = (x ++ y) ++ z by simp, show x.length + y.length = (x ++ y).length by simp, List.drop_left]

def zeros (n : Nat) : Bs := List.replicate n 0

/-- bytes of all texts. -/
def total (rows : List Bs) : Nat := (rows.map List.length).sum

@[simp] theorem total_nil : total [] = 0 := rfl
@[simp] theorem total_cons (r : Bs) (rows : List Bs) : total (r :: rows) = r.length + total rows := by simp [total]
@[simp] theorem total_append (a b : List Bs) : total (a ++ b) = total a + total b := by simp [total]

/-- the directory of texts that stand from 'low' down. -/
def dir : Nat → List Bs → Bs
  | _, [] => []
  | low, r :: rs => be 2 (low - r.length) ++ be 2 r.length ++ dir (low - r.length) rs

theorem dir_length : ∀ (low : Nat) (rows : List Bs), (dir low rows).length = 4 * rows.length
  | _, [] => rfl
  | low, r :: rs => by simp [dir, dir_length _ rs]; omega

theorem dir_append : ∀ (low : Nat) (a b : List Bs), dir low (a ++ b) = dir low a ++ dir (low - total a) b
  | low, [], b => by simp [dir]
  | low, r :: rs, b => by
    simp only [List.cons_append, dir, dir_append _ rs b, total_cons, List.append_assoc]
    rw [Nat.sub_sub]

/-- an area of so many bytes with these texts, one put behind the other. -/
def area (size : Nat) (rows : List Bs) : Bs :=
  be 2 rows.length ++ be 2 (size - total rows) ++ dir size rows ++ zeros (size - total rows - 4 - 4 * rows.length) ++ rows.reverse.flatten

theorem flatten_length (rows : List Bs) : rows.flatten.length = total rows := by
  induction rows with
  | nil => rfl
  | cons r rs ih => simp [ih]

theorem total_reverse (rows : List Bs) : total rows.reverse = total rows := by
  induction rows with
  | nil => rfl
  | cons r rs ih => simp [ih]; omega

theorem area_length {size : Nat} {rows : List Bs} (h : 4 + 4 * rows.length + total rows ≤ size) : (area size rows).length = size := by
  simp only [area, List.length_append, be_length, dir_length, zeros, List.length_replicate, flatten_length, total_reverse]
  omega

theorem area_new (size : Nat) (h : 4 ≤ size) : area size [] = patch (zeros size) 2 (be 2 size) := by
  have e : zeros size = zeros 2 ++ zeros 2 ++ zeros (size - 4) := by
    unfold zeros; rw [List.replicate_append_replicate, List.replicate_append_replicate]; congr 1; omega
  rw [e, patch_mid (by simp [zeros]) (by simp [zeros])]
  simp [area, dir, be, zeros]

/-- what a put behind all does, write by write. -/
theorem area_put {size : Nat} {rows : List Bs} {r : Bs} (h : 8 + 4 * rows.length + total rows + r.length ≤ size) :
    patch (patch (patch (patch (patch (area size rows) (size - total rows - r.length) r) 2 (be 2 (size - total rows - r.length))) 0 (be 2 (rows.length + 1))) (4 + 4 * rows.length) (be 2 (size - total rows - r.length)))
      (4 + 4 * rows.length + 2) (be 2 r.length) = area size (rows ++ [r]) := by
  obtain ⟨z, hz⟩ : ∃ z, size - total rows - 4 - 4 * rows.length = 4 + z + r.length := ⟨size - total rows - 4 - 4 * rows.length - 4 - r.length, by omega⟩
  have e0 : area size rows = (be 2 rows.length ++ be 2 (size - total rows) ++ dir size rows ++ zeros 4 ++ zeros z) ++ zeros r.length ++ rows.reverse.flatten := by
    unfold area
    rw [hz]
    have : zeros (4 + z + r.length) = zeros 4 ++ zeros z ++ zeros r.length := by
      unfold zeros; rw [List.replicate_append_replicate, List.replicate_append_replicate]
    rw [this]
    simp only [List.append_assoc]
  rw [e0, patch_mid (by simp [dir_length, zeros]; omega) (by simp [zeros])]
  rw [show (be 2 rows.length ++ be 2 (size - total rows) ++ dir size rows ++ zeros 4 ++ zeros z) ++ r ++ rows.reverse.flatten = be 2 rows.length ++ be 2 (size - total rows) ++ (dir size rows ++ zeros 4 ++ zeros z ++ r ++ rows.reverse.flatten) by simp only [List.append_assoc]]
  rw [patch_mid (by simp) (by simp)]
  rw [show be 2 rows.length ++ be 2 (size - total rows - r.length) ++ (dir size rows ++ zeros 4 ++ zeros z ++ r ++ rows.reverse.flatten) = [] ++ be 2 rows.length ++ (be 2 (size - total rows - r.length) ++ (dir size rows ++ zeros 4 ++ zeros z ++ r ++ rows.reverse.flatten)) by simp only [List.append_assoc, List.nil_append]]
  rw [patch_mid (by simp) (by simp)]
  have e4 : zeros 4 = zeros 2 ++ zeros 2 := rfl
  rw [show [] ++ be 2 (rows.length + 1) ++ (be 2 (size - total rows - r.length) ++ (dir size rows ++ zeros 4 ++ zeros z ++ r ++ rows.reverse.flatten)) = (be 2 (rows.length + 1) ++ be 2 (size - total rows - r.length) ++ dir size rows) ++ zeros 2 ++ (zeros 2 ++ zeros z ++ r ++ rows.reverse.flatten) by rw [e4]; simp only [List.append_assoc, List.nil_append]]
  rw [patch_mid (by simp [dir_length]; omega) (by simp [zeros])]
  rw [show (be 2 (rows.length + 1) ++ be 2 (size - total rows - r.length) ++ dir size rows) ++ be 2 (size - total rows - r.length) ++ (zeros 2 ++ zeros z ++ r ++ rows.reverse.flatten) = (be 2 (rows.length + 1) ++ be 2 (size - total rows - r.length) ++ dir size rows ++ be 2 (size - total rows - r.length)) ++ zeros 2 ++ (zeros z ++ r ++ rows.reverse.flatten) by simp only [List.append_assoc]]
  rw [patch_mid (by simp [dir_length]; omega) (by simp [zeros])]
  unfold area
  have hz' : size - total (rows ++ [r]) - 4 - 4 * (rows ++ [r]).length = z := by simp; omega
  rw [hz', dir_append]
  simp [dir, Nat.sub_sub]

end Go.Proofs.YtcciodpchdijgaaGreat.Sp
