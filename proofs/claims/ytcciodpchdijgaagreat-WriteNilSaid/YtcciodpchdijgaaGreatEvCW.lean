/- Laws of their own; law 27 alive. -/
import Derived.Test.YtcciodpchdijgaaGreatSumW
import Derived.Lib.Bytealg
import Derived.Test.YtcciodpchdijgaaGreatEIS
import Derived.Test.YtcciodpchdijgaaGreatEGW
set_option linter.constructorNameAsVariable false
set_option linter.unusedVariables false
set_option linter.unusedSimpArgs false
namespace Ev
open Go Go.Conc Go.RowKit Go.Proofs
variable {T : Tb}
theorem more_inv {c : CV} {h : HP} {K : Kv} (hy : prMore c h K = .yes) : ∃ n d, c = .c (.nt .u32 (.ofNat 0)) (.c (.st n d) .nil) ∧ n ≤ 1000000000 ∧ K (.nt .u32 (.ofNat (Nat.xor (crcGo n 0xffffffff d) 0xffffffff))) h = .yes := by
  unfold prMore at hy
  split at hy
  · rename_i c n d
    obtain ⟨h1, h2⟩ := bf_yes' hy
    obtain ⟨h3, h4⟩ := bf_yes' h2
    have := Nat.eq_of_beq_eq_true h1
    subst this
    exact ⟨n, d, rfl, Nat.le_of_ble_eq_true h3, h4⟩
  · cases hy
theorem crc_link (n d : Nat) : Go.Proofs.YtcciodpchdijgaaGreat.Sp.crc (bsOf n d) = Nat.xor (crcGo n 0xffffffff d) 0xffffffff := by
  have h1 : Go.Proofs.YtcciodpchdijgaaGreat.Sp.crcRun 4294967295 (bsOf n d) = crcGo n 0xffffffff d := by
    rw [crcGo_eq]; rfl
  have hlt := Go.Proofs.YtcciodpchdijgaaGreat.Sp.crcRun_lt (c := 4294967295) (by omega) (bsOf n d)
  unfold Go.Proofs.YtcciodpchdijgaaGreat.Sp.crc
  rw [h1] at hlt ⊢
  generalize crcGo n 0xffffffff d = c at *
  show 4294967295 - c = c ^^^ 4294967295
  apply Nat.eq_of_testBit_eq
  intro i
  rw [Nat.testBit_xor, show 4294967295 - c = 2 ^ 32 - (c + 1) by omega, Nat.testBit_two_pow_sub_succ (by omega), show (4294967295 : Nat) = 2 ^ 32 - 1 from rfl, Nat.testBit_two_pow_sub_one]
  by_cases hi : i < 32
  · simp [hi]
  · have : c.testBit i = false := Nat.testBit_lt_two_pow (Nat.lt_of_lt_of_le hlt (show 2 ^ 32 ≤ 2 ^ i from Nat.pow_le_pow_right (by omega) (by omega)))
    simp [hi, this]
theorem more_ok : PrimOk T Tryz.prog Fence.wide prMore 402 := by
  intro ρ h w c K vals hy g ha hw
  obtain ⟨n, d, rfl, hn, hk⟩ := more_inv hy
  obtain ⟨l, hl⟩ : ∃ l, l = vals.toList := ⟨_, rfl⟩
  rw [← hl] at ha
  cases ha with
  | cons h1 t1 => cases t1 with
    | cons h2 t2 =>
      cases t2
      cases h1
      cases h2
      rename_i hd
      have hv : vals = #[.int .u32 0, Go.Proofs.YtcciodpchdijgaaGreat.str (bsOf n d)] := by rw [← Array.toArray_toList (xs := vals), ← hl]; rfl
      subst hv
      refine ⟨Tryz.call402, (callsIn_wide.2 (Go.Proofs.YtcciodpchdijgaaGreat.sum_more (bsOf n d) w (by rw [bsOf_length]; exact hn))).mono ?_⟩
      rintro e w' ⟨rfl, hb⟩
      refine ⟨_, ρ, h, _, rfl, hk, Post.below g hb, ?_⟩
      rw [crc_link]
      exact .nt _ _
theorem cmp_inv {c : CV} {h : HP} {K : Kv} (hy : prCmp c h K = .yes) : ∃ n a m b, c = .c (.st n a) (.c (.st m b) .nil) ∧ K (.nt .i64 (cmpN n a m b)) h = .yes := by
  unfold prCmp at hy
  split at hy
  · exact ⟨_, _, _, _, rfl, hy⟩
  · cases hy
theorem cmp_ok : ExtOk T Tryz.prog prCmp 380 := by
  intro ρ h w c K vals hy g ha hw
  obtain ⟨n, a, m, b, rfl, hk⟩ := cmp_inv hy
  obtain ⟨l, hl⟩ : ∃ l, l = vals.toList := ⟨_, rfl⟩
  rw [← hl] at ha
  cases ha with
  | cons h1 t1 => cases t1 with
    | cons h2 t2 =>
      cases t2
      cases h1
      cases h2
      have hv : vals = #[.string (strOf n a), .string (strOf m b)] := by rw [← Array.toArray_toList (xs := vals), ← hl]
      subst hv
      refine ⟨_, ρ, h, .int .i64 (cmpN n a m b), w, ?_, hk, Post.refl g, .nt _ _⟩
      rw [run_callFunc_extern Tryz.func380 (by kernel_rfl) (by kernel_rfl) (by kernel_rfl) (e := Extern.BytealgCompare.compare) (by kernel_rfl), Lib.run_compareString]
      rw [cmpN_eq]
      show Result.andThen _ _ = _
      simp only [Result.andThen, strOf_data]
      rfl
theorem cs_ok : CsOk Tryz.prog Fence.wide cs0 := fun f v hf => by cases hf
end Ev
