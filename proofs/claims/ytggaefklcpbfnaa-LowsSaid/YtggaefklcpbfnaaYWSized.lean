/- Words, lemmas and functions told as plain ones, out of what the kit's print wrote: what the row's proof uses. No statement of the seed is proved here. -/
import Derived.SizedLaws
import Derived.ChangeSlices
namespace Go.Proofs.YtggaefklcpbfnaaW.PrintWords
open Go.ChangeShapes Go.WideShapes
end Go.Proofs.YtggaefklcpbfnaaW.PrintWords
