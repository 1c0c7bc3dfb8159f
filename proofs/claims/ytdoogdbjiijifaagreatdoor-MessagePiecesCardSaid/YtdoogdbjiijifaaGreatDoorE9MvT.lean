/- Lemmas of the proof; no conditions. -/
import Derived.Test.YtdoogdbjiijifaaGreatDoorE9Paa
import Derived.Test.YtdoogdbjiijifaaGreatDoorRows
import Derived.SevenTiedAt
import Derived.LaidSub
import Derived.LaidOnce
namespace Go.Proofs.YtdoogdbjiijifaaGreatDoor
open Go
set_option maxRecDepth 100000
abbrev K9:List (String×DataW Unit):=[("math/bits.deBruijn32tab",Rows.laid_math_bits_deBruijn32tab),("math/bits.deBruijn64tab",Rows.laid_math_bits_deBruijn64tab),("internal/strconv.uint64pow10",Rows.laid_internal_strconv_uint64pow10),("unicode/utf8.acceptRanges",Rows.laid_unicode_utf8_acceptRanges),("strconv.ErrRange",Rows.laid_strconv_ErrRange),("strconv.ErrSyntax",Rows.laid_strconv_ErrSyntax),("spillway/request.methods",Rows.laid_spillway_request_methods),("unicode.CaseRanges",Rows.laid_unicode_CaseRanges),("unicode/utf8.first",Rows.laid_unicode_utf8_first)]
theorem seatTie1:Tryz.prog.laidByTextLater [("math/bits.deBruijn32tab",Rows.laid_math_bits_deBruijn32tab),("math/bits.deBruijn64tab",Rows.laid_math_bits_deBruijn64tab),("internal/strconv.uint64pow10",Rows.laid_internal_strconv_uint64pow10),("unicode/utf8.acceptRanges",Rows.laid_unicode_utf8_acceptRanges),("strconv.ErrRange",Rows.laid_strconv_ErrRange),("strconv.ErrSyntax",Rows.laid_strconv_ErrSyntax),("spillway/request.methods",Rows.laid_spillway_request_methods)] [.data,.data,.data,.data,.sentinel,.sentinel,.data] true :=
 Program.laidByTextLater_by_one 83 8 65 (by kernel_rfl) (by kernel_rfl) (by kernel_rfl) (by kernel_rfl) (by kernel_rfl) (by kernel_rfl) (λ_ _=>by kernel_rfl)
theorem pin_laid_unicode_CaseRanges:Tryz.pinned.checked.prog.pinnedFits "unicode.CaseRanges"=true:=by kernel_rfl
theorem pin_laid_unicode_utf8_first:Tryz.pinned.checked.prog.pinnedFits "unicode/utf8.first"=true:=by kernel_rfl
theorem noOwnUnsafe:Tryz.pinned.checked.prog.headLifts.contains "ownunsafe"=false:=by kernel_rfl
theorem fits2:Tryz.pinned.checked.prog.listedFits K9=true:=by
 unfold Program.listedFits;rw[noOwnUnsafe]
 kernel_rfl
theorem messagePieces_row_tie:Rows.messagePiecesRow.laidByTextAt .later Tryz.pinned [.data,.data,.data,.data,.sentinel,.sentinel,.data,.pinned,.pinned] true :=
 OpenClaim.laidByTextAt_pinned rfl rfl seatTie1 rfl rfl rfl rfl (λy hy _e=>by
  simp only[Rows.messagePiecesRow,YN,List.zip_nil_right,XT,ZU,or_false]at hy;rcases hy with rfl|rfl|rfl|rfl|rfl|rfl|rfl|rfl|rfl
  .cases _e
  .cases _e
  .cases _e
  .cases _e
  .cases _e
  .cases _e
  .cases _e
  .exact⟨pin_laid_unicode_CaseRanges,by kernel_rfl⟩
  .exact⟨pin_laid_unicode_utf8_first,by kernel_rfl⟩) fits2
end Go.Proofs.YtdoogdbjiijifaaGreatDoor
