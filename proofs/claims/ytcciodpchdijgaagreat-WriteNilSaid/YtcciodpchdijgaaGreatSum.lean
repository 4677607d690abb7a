/- Plain words on the sum of a text, and a text sealed by it. No program is named here. -/
import Derived.Test.YtcciodpchdijgaaGreatBytes
namespace Go.Proofs.YtcciodpchdijgaaGreat.Sp

def poly : Nat := 0x82F63B78
def crcStep (c : Nat) : Nat := (c / 2) ^^^ (poly * (c % 2))
def crcSteps : Nat → Nat → Nat
  | 0, c => c
  | k + 1, c => crcStep (crcSteps k c)
def crcTab (i : Nat) : Nat := crcSteps 8 i
def crcByte (c x : Nat) : Nat := crcTab ((c % 256) ^^^ x) ^^^ (c / 256)
def crcRun (c : Nat) (s : Bs) : Nat := s.foldl (fun c x => crcByte c x.toNat) c
def crc (s : Bs) : Nat := 4294967295 - crcRun 4294967295 s

theorem crcStep_lt {c : Nat} (h : c < 4294967296) : crcStep c < 4294967296 := by
  have h1 : c / 2 < 2 ^ 32 := by omega
  have h2 : poly * (c % 2) < 2 ^ 32 := by
    unfold poly
    have : c % 2 < 2 := Nat.mod_lt _ (by omega)
    omega
  exact Nat.xor_lt_two_pow h1 h2

theorem crcSteps_lt {c : Nat} (h : c < 4294967296) : ∀ k, crcSteps k c < 4294967296
  | 0 => h
  | k + 1 => crcStep_lt (crcSteps_lt h k)

theorem crcTab_lt {i : Nat} (h : i < 256) : crcTab i < 4294967296 := crcSteps_lt (by omega) 8

theorem xor_byte {c x : Nat} (hx : x < 256) : (c % 256) ^^^ x < 256 := Nat.xor_lt_two_pow (n := 8) (by omega) hx

theorem crcByte_lt {c x : Nat} (hc : c < 4294967296) (hx : x < 256) : crcByte c x < 4294967296 :=
  Nat.xor_lt_two_pow (n := 32) (crcTab_lt (xor_byte hx)) (by omega)

theorem crcRun_snoc (c : Nat) (s : Bs) (x : UInt8) : crcRun c (s ++ [x]) = crcByte (crcRun c s) x.toNat := by simp [crcRun]

theorem crcRun_lt {c : Nat} (hc : c < 4294967296) (s : Bs) : crcRun c s < 4294967296 := by
  induction s generalizing c with
  | nil => exact hc
  | cons x s ih => exact ih (crcByte_lt hc x.toNat_lt)

theorem crc_lt (s : Bs) : crc s < 4294967296 := by unfold crc; omega

/-- the sum's bytes, the lowest first. -/
def sumBytes (s : Bs) : Bs := [UInt8.ofNat (crc s), UInt8.ofNat (crc s / 256), UInt8.ofNat (crc s / 65536), UInt8.ofNat (crc s / 16777216)]
@[simp] theorem sumBytes_length (s : Bs) : (sumBytes s).length = 4 := rfl
def sealed (s : Bs) : Bs := s ++ sumBytes s
@[simp] theorem sealed_length (s : Bs) : (sealed s).length = s.length + 4 := by simp [sealed]
theorem sealed_take (s : Bs) : (sealed s).take ((sealed s).length - 4) = s := by simp [sealed]

/-- 508 bytes that are 0, behind them four more: no text is sealed so. -/
theorem zeros_unsealed : sealed (zeros 508) ≠ zeros 512 := by
  intro h
  have h1 : (sealed (zeros 508)).drop 508 = (zeros 512).drop 508 := by rw [h]
  have h2 : (sealed (zeros 508)).drop 508 = sumBytes (zeros 508) := List.drop_left' (List.length_replicate ..)
  rw [h2] at h1
  revert h1
  decide +kernel

end Go.Proofs.YtcciodpchdijgaaGreat.Sp
