/- A part of the proofs of the statements of one layer: G2. No condition is added here. -/
import Derived.Test.YtcemloapifojkaaGreatDoorRows
import Derived.Test.YtcemloapifojkaaGreatDoorXC17
set_option linter.unusedVariables false
set_option linter.unusedSimpArgs false
section
namespace Go.VX.Seat
open Go.Proofs.YtcemloapifojkaaGreatDoor
def laidL : List (String × DataW Unit) := [("math/bits.deBruijn32tab", Rows.laid_math_bits_deBruijn32tab), ("math/bits.deBruijn64tab", Rows.laid_math_bits_deBruijn64tab), ("internal/strconv.uint64pow10", Rows.laid_internal_strconv_uint64pow10), ("unicode/utf8.acceptRanges", Rows.laid_unicode_utf8_acceptRanges), ("strconv.ErrRange", Rows.laid_strconv_ErrRange), ("strconv.ErrSyntax", Rows.laid_strconv_ErrSyntax), ("bireme/code.forms", Rows.laid_bireme_code_forms), ("bireme/code.ends", Rows.laid_bireme_code_ends), ("unicode/utf8.first", Rows.laid_unicode_utf8_first)]
def glI : List (Option Nat):=[some 6,some 7,some 2,none,some 5,some 4]
end Go.VX.Seat
end
