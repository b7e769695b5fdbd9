/- Plain arithmetic: wraps, and the bits of numbers. -/
import Derived.Test.YteakhlhhmgpidaaEvT
namespace Go.Ev
open Go
set_option linter.unusedVariables false
set_option linter.unusedSimpArgs false

theorem w_u8 (n : Int) : IntKind.u8.wrap n = n % 256 := by simp [IntKind.wrap, IntKind.bits, IntKind.signed]
theorem w_u16 (n : Int) : IntKind.u16.wrap n = n % 65536 := by simp [IntKind.wrap, IntKind.bits, IntKind.signed]
theorem w_u32 (n : Int) : IntKind.u32.wrap n = n % 4294967296 := by simp [IntKind.wrap, IntKind.bits, IntKind.signed]
theorem w_u64 (n : Int) : IntKind.u64.wrap n = n % 18446744073709551616 := by simp [IntKind.wrap, IntKind.bits, IntKind.signed]
theorem w_i8 (n : Int) : IntKind.i8.wrap n = (n + 128) % 256 - 128 := by simp only [IntKind.wrap, IntKind.bits, IntKind.signed]; simp; split <;> omega
theorem w_i16 (n : Int) : IntKind.i16.wrap n = (n + 32768) % 65536 - 32768 := by simp only [IntKind.wrap, IntKind.bits, IntKind.signed]; simp; split <;> omega
theorem w_i32 (n : Int) : IntKind.i32.wrap n = (n + 2147483648) % 4294967296 - 2147483648 := by simp only [IntKind.wrap, IntKind.bits, IntKind.signed]; simp; split <;> omega
theorem w_i64 (n : Int) : IntKind.i64.wrap n = (n + 9223372036854775808) % 18446744073709551616 - 9223372036854775808 := by simp only [IntKind.wrap, IntKind.bits, IntKind.signed]; simp; split <;> omega

theorem toNat_ofInt (w : Nat) (a : Int) : (BitVec.ofInt w a).toNat = (a % (2 ^ w : Nat)).toNat := by simp [BitVec.toNat_ofInt]
/-- The bits of a number and of a row of ones. -/
theorem and_ones (w k : Nat) (hk : k ≤ w) (a : Int) : ((BitVec.ofInt w a &&& BitVec.ofInt w ((2 ^ k - 1 : Nat) : Int)).toNat : Int) = a % (2 ^ k : Nat) := by
  have hp : 0 < 2 ^ k := Nat.two_pow_pos k
  have hle : 2 ^ k ≤ 2 ^ w := Nat.pow_le_pow_right (by omega) hk
  have e2 : (((2 ^ k - 1 : Nat) : Int) % ((2 ^ w : Nat) : Int)).toNat = 2 ^ k - 1 := by
    rw [Int.emod_eq_of_lt (by omega) (by omega)]
    omega
  rw [BitVec.toNat_and, toNat_ofInt, toNat_ofInt, e2, Nat.and_two_pow_sub_one_eq_mod]
  have h0 : 0 ≤ a % ((2 ^ w : Nat) : Int) := Int.emod_nonneg _ (by omega)
  have h1 : ((a % ((2 ^ w : Nat) : Int)).toNat : Int) = a % ((2 ^ w : Nat) : Int) := Int.toNat_of_nonneg h0
  rw [Int.natCast_emod, h1]
  have hd : ((2 ^ k : Nat) : Int) ∣ ((2 ^ w : Nat) : Int) := by
    rw [Int.natCast_dvd_natCast]; exact Nat.pow_dvd_pow 2 hk
  exact Int.emod_emod_of_dvd a hd
theorem and32 (a : Int) : ((BitVec.ofInt 64 a &&& BitVec.ofInt 64 4294967295).toNat : Int) = a % 4294967296 := by have := and_ones 64 32 (by omega) a; exact this
theorem and31 (a : Int) : ((BitVec.ofInt 64 a &&& BitVec.ofInt 64 31).toNat : Int) = a % 32 := by have := and_ones 64 5 (by omega) a; exact this
theorem and63 (a : Int) : ((BitVec.ofInt 64 a &&& BitVec.ofInt 64 63).toNat : Int) = a % 64 := by have := and_ones 64 6 (by omega) a; exact this
theorem wrap_mod32 (a : Int) : IntKind.i64.wrap (a % 32) = a % 32 := by rw [w_i64]; omega
theorem wrap_mod64 (a : Int) : IntKind.i64.wrap (a % 64) = a % 64 := by rw [w_i64]; omega
end Go.Ev
