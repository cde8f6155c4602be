import Derived.Test.YtkmffdoaahiopaaGreatDoorRows
import Derived.Test.YtkmffdoaahiopaaGreatDoorChecked
import Derived.KernelRfl
import Derived.JoinedOf
namespace Bn
open Go Go.Proofs
theorem clo3 : Tryz.prog.closure 3 = [3, 4, 6, 7, 11, 23, 24, 39, 62, 63, 12, 14, 13, 25, 40, 26, 41, 64, 77, 94, 78, 79, 80, 95, 27, 42, 65, 81, 82, 43, 66, 83, 67, 68, 85, 96, 101, 105, 106, 115, 114, 116, 107, 108, 117, 118, 121, 122, 84, 69, 8, 15, 28, 44, 45, 46, 70, 5, 9, 10, 16, 30, 49, 73, 89, 74, 90, 50, 51, 29, 47, 71, 86, 97, 102, 109, 119, 120, 110, 111, 112, 87, 88, 98, 99, 103, 113, 72, 48, 17, 31, 18, 19, 32, 52, 53, 54, 33, 56, 55, 75, 91, 34, 35, 58, 59, 57, 36, 61, 60, 76, 92, 93, 100, 104, 37, 20, 21, 22, 38] := by kernel_rfl
end Bn
