/- Numbers in bytes. -/
import Derived.Test.YtkcnljgjlofgiaaGreatDoorAbFaRole
namespace Go.Proofs.YtkcnljgjlofgiaaGreatDoor.AB
open Go
set_option maxRecDepth 100000
set_option linter.unusedSimpArgs false
set_option linter.unusedVariables false
/-- a number's bytes -/
def varN (n : Nat) : List UInt8 := if n > 127 then UInt8.ofNat (n % 128 + 128) :: varN (n / 128) else [UInt8.ofNat n]
termination_by n
decreasing_by omega
theorem varN_len : ∀ (k n : Nat), n < 128 ^ (k + 1) → (varN n).length ≤ k + 1
  | 0, n, h => by unfold varN; rw [if_neg (by omega)]; simp
  | k + 1, n, h => by
    unfold varN
    split
    · have := varN_len k (n / 128) (by rw [Nat.pow_succ] at h; omega)
      simp only [List.length_cons]; omega
    · simp
theorem varN_len10 {n : Nat} (h : n ≤ 9223372036854775807) : (varN n).length ≤ 10 := varN_len 9 n (by omega)
theorem wrap64n {m : Nat} (h : m ≤ 9223372036854775807) : IntKind.i64.wrap (m : Int) = m := wrap64 (by omega) (by omega)
theorem wrap8n {m : Nat} (h : m ≤ 255) : IntKind.u8.wrap (m : Int) = m := wrap8 (by omega) (by omega)
theorem ofInt_nat {m : Nat} (h : m ≤ 9223372036854775807) : (BitVec.ofInt 64 (m : Int)).toNat = m := by
  rw [BitVec.toNat_ofInt]; omega
theorem andK_nat {a b : Nat} (ha : a ≤ 9223372036854775807) (hb : b ≤ 9223372036854775807) : andK .i64 a b = (a &&& b : Nat) := by
  unfold andK
  show IntKind.i64.wrap ((BitVec.ofInt 64 (a : Int) &&& BitVec.ofInt 64 (b : Int)).toNat : Int) = _
  rw [BitVec.toNat_and, ofInt_nat ha, ofInt_nat hb, wrap64n (Nat.le_trans Nat.and_le_left ha)]
theorem orK_nat {a b : Nat} (ha : a ≤ 9223372036854775807) (hb : b ≤ 9223372036854775807) : orK .i64 a b = (a ||| b : Nat) := by
  unfold orK
  show IntKind.i64.wrap ((BitVec.ofInt 64 (a : Int) ||| BitVec.ofInt 64 (b : Int)).toNat : Int) = _
  rw [BitVec.toNat_or, ofInt_nat ha, ofInt_nat hb, wrap64n (by have := Nat.or_lt_two_pow (n := 63) (x := a) (y := b) (by omega) (by omega); omega)]
theorem and127 {m : Nat} (h : m ≤ 9223372036854775807) : andK .i64 m 127 = (m % 128 : Nat) := by
  rw [show (127 : Int) = ((2 ^ 7 - 1 : Nat) : Int) from rfl, andK_nat h (by omega), Nat.and_two_pow_sub_one_eq_mod]
theorem or128 {m : Nat} (h : m < 128) : orK .i64 m 128 = (m + 128 : Nat) := by
  rw [show (128 : Int) = ((128 : Nat) : Int) from rfl, orK_nat (by omega) (by omega), show m ||| 128 = m + 128 from by revert m; decide]
theorem shr7 (m : Nat) : shrK .i64 m 7 = (m / 128 : Nat) := by
  unfold shrK
  rw [show ((2 : Int) ^ min (Int.toNat 7) IntKind.i64.bits) = 128 from by decide, Int.fdiv_eq_ediv_of_nonneg _ (by omega)]; omega
theorem bytesC_snoc (l : List UInt8) {k : Nat} (h : k ≤ 255) : bytesC (l ++ [UInt8.ofNat k]) = bytesC l ++ [[.v (.int .u8 (k : Int))]] := by
  rw [bytesC_app, show bytesC [UInt8.ofNat k] = [[.v (.int .u8 (k : Int))]] from bytesC_one k (by omega) (by omega)]
theorem bytesC_len (l : List UInt8) : (bytesC l).length = l.length := by simp [bytesC]
/-- the bytes of a number that is not below 0 -/
def varI (n : Int) : List UInt8 := varN (n.toNat % 9223372036854775808)
theorem varI_len (n : Int) : (varI n).length ≤ 10 := varN_len10 (by omega)
theorem varI_nat {n : Nat} (h : n ≤ 9223372036854775807) : varI n = varN n := by unfold varI; rw [Int.toNat_natCast, Nat.mod_eq_of_lt (by omega)]
end Go.Proofs.YtkcnljgjlofgiaaGreatDoor.AB
