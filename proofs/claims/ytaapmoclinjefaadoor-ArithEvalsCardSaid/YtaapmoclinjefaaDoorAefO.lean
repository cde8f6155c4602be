import Derived.Test.YtaapmoclinjefaaDoorRows
import Derived.Test.YtaapmoclinjefaaDoorChecked
import Derived.KernelRfl
import Derived.JoinedOf
namespace Ar
open Go Go.Proofs
theorem clo3 : Tryd.prog.closure 3 = [3, 6, 10, 17, 30, 45, 18, 11, 19, 31, 32, 33, 46, 34, 47, 64, 48, 65, 81, 70, 87, 82, 72, 71, 27, 41, 58, 59, 60, 61, 62, 79, 63, 80, 12, 15, 28, 42, 52, 73, 88, 29, 43, 53, 74, 75, 44, 54, 76, 55, 56, 78, 89, 90, 91, 92, 96, 95, 97, 93, 94, 98, 99, 100, 101, 77, 57, 20, 36, 35, 21, 22, 37, 7, 13, 23, 38, 49, 24, 14, 26, 40, 25, 66, 83, 84, 67, 85, 68, 86, 69, 50, 51, 39, 8] := by kernel_rfl
end Ar
