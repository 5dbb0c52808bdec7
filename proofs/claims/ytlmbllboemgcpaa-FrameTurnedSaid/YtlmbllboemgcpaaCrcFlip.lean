/- One bit of a byte turned over, as Go writes it. -/
import Derived.Test.YtlmbllboemgcpaaCrcSum
import Derived.Test.YtlmbllboemgcpaaBytes
import Derived.Test.YtlmbllboemgcpaaCrcTurn
namespace Go.Proofs.Ytlmbllboemgcpaa.CrcW
open Go.RowKit
open CrcP (W)
theorem u8_flip (c : UInt8) (r : Nat) (_ : r < 8) : bits BinOp.xor IntKind.u8 (c.toNat : Int) ((2 : Int) ^ r % 256) = ((CrcP.flipB c r).toNat : Int) := by
  unfold CrcP.flipB
  rw [show ((2 : Int) ^ r % 256) = (((CrcP.bitByte r).toNat : Nat) : Int) by
    unfold CrcP.bitByte
    rw [UInt8.toNat_ofNat', Int.natCast_emod, Int.natCast_pow]; rfl]
  rw [u8_xor_nat _ _ c.toNat_lt (CrcP.bitByte r).toNat_lt, UInt8.toNat_xor]
theorem u32_bit (fl m : Nat) (h : fl < 4294967296) : (bits BinOp.and IntKind.u32 ((fl : Int) / 2 ^ m) 1 == 1) = fl.testBit m := by
  have e : ((fl : Int) / 2 ^ m) = ((fl / 2 ^ m : Nat) : Int) := by rw [Int.natCast_ediv, Int.natCast_pow]; rfl
  have h2 : fl / 2 ^ m < 4294967296 := Nat.lt_of_le_of_lt (Nat.div_le_self _ _) h
  have h1 := u32_and_nat (fl / 2 ^ m) 1 h2 (by omega)
  rw [e, show (1 : Int) = ((1 : Nat) : Int) from rfl, h1, nat_mask1, Nat.testBit_eq_decide_div_mod_eq]
  rw [Bool.eq_iff_iff]; simp; omega

end Go.Proofs.Ytlmbllboemgcpaa.CrcW
