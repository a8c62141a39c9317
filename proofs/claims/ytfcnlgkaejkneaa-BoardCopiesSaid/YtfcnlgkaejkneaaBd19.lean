/- Layer 11: the document's SameActs. -/
import Derived.Test.YtfcnlgkaejkneaaBd18
namespace Go.Proofs.Ytfcnlgkaejkneaa
open Go.RowKit

theorem eqAct (w : World) (a c d : Int) (b : Bool) : (Op.equalIn 10000 72 (.agg #[.int .u64 a, .bool b, .int .u16 c, .int .u8 d]) (.agg #[.int .u64 a, .bool b, .int .u16 c, .int .u8 d])).run Try.prog w = .ok true w := by
  have hf : (Try.prog.fieldsOf 72).toList = [{ name := "T", type := 32, offset := 0, embedded := false, tag := "", pkgPath := "", byteOffset := 0 }, { name := "Out", type := 4, offset := 1, embedded := false, tag := "", pkgPath := "", byteOffset := 8 }, { name := "Port", type := 43, offset := 2, embedded := false, tag := "", pkgPath := "", byteOffset := 10 }, { name := "V", type := 5, offset := 3, embedded := false, tag := "", pkgPath := "", byteOffset := 12 }] := by kernel_rfl
  rw [show (10000 : Nat) = 9999 + 1 from rfl, run_equalIn_struct w 9999 _ _ _ (by kernel_rfl) (by kernel_rfl), hf]
  have h1 := fun x y => run_equalIn_int w 9998 32 .u64 .u64 x y Try.underlying32
  have h2 := fun x y => run_equalIn_bool w 9998 4 x y Try.underlying4
  have h3 := fun x y => run_equalIn_int w 9998 43 .u16 .u16 x y Try.underlying43
  have h4 := fun x y => run_equalIn_int w 9998 5 .u8 .u8 x y Try.underlying5
  have c1 : Try.prog.cellsOf 32 = 1 := by kernel_rfl
  have c2 : Try.prog.cellsOf 4 = 1 := by kernel_rfl
  have c3 : Try.prog.cellsOf 43 = 1 := by kernel_rfl
  have c4 : Try.prog.cellsOf 5 = 1 := by kernel_rfl
  simp [Op.eqFields, part, h1, h2, h3, h4]
end Go.Proofs.Ytfcnlgkaejkneaa
