/-
  The program's ties, fact by fact (the seat's own text for them wants more memory than a process may have). No further condition.
-/
import Derived.Test.YtnjfcaphpemihaaGreatDoorRows
import Derived.LaidByTextLater
import Derived.SevenTiedAt
namespace Go.Proofs.YtnjfcaphpemihaaGreatDoor.playCalls
open Go
def tl : List (String × DataW Unit) := [("unicode/utf8.acceptRanges", Rows.laid_unicode_utf8_acceptRanges), ("strings.asciiSpace", Rows.laid_strings_asciiSpace), ("unicode.White_Space", Rows.laid_unicode_White_Space), ("strconv.ErrSyntax", Rows.laid_strconv_ErrSyntax), ("strconv.ErrRange", Rows.laid_strconv_ErrRange), ("internal/strconv.uint64pow10", Rows.laid_internal_strconv_uint64pow10), ("math/bits.deBruijn32tab", Rows.laid_math_bits_deBruijn32tab), ("math/bits.deBruijn64tab", Rows.laid_math_bits_deBruijn64tab)]
def tk : List LaidKind := [.data, .data, .listed, .sentinel, .sentinel, .data, .data, .data]
theorem vid : varsId Tryz.prog = 479 := by kernel_rfl
theorem t_hw : Tryz.prog.worded (varsWordLater true) = true := by kernel_rfl
theorem t_hw2 : Tryz.prog.worded (varsWordLater !true) = false := by kernel_rfl
end Go.Proofs.YtnjfcaphpemihaaGreatDoor.playCalls
