import Derived.Test.YtbfdpfcofdgckaaGreatDoorRows
import Derived.Test.YtbfdpfcofdgckaaGreatDoorChecked
import Derived.KernelRfl
import Derived.JoinedOf
namespace Br
open Go Go.Proofs
theorem clo4 : Tryz.prog.closure 4 = [4, 6, 12, 36, 68, 69, 106, 120, 121, 35, 67, 14, 38, 72, 109, 125, 110, 126, 73, 74, 37, 70, 84, 117, 136, 137, 89, 118, 107, 122, 139, 152, 158, 164, 142, 154, 165, 144, 143, 159, 160, 161, 123, 124, 140, 141, 153, 162, 108, 71, 15, 39, 16, 40, 75, 111, 76, 112, 127, 145, 155, 77, 113, 128, 146, 147, 114, 129, 148, 130, 131, 150, 156, 163, 166, 167, 171, 170, 172, 168, 169, 173, 174, 175, 176, 149, 132, 17, 41, 78, 79, 80, 42, 82, 81, 115, 133, 43, 44, 47, 85, 86, 83, 48, 88, 87, 116, 134, 135, 151, 157, 49, 18, 45, 46, 19, 20, 21, 50, 8, 22, 23, 7] := by kernel_rfl
end Br
