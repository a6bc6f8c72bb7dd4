/- leaf: the five laws -/
import Derived.Test.YtcecopdkaalfkaaPlClone
import Derived.Test.YtcecopdkaalfkaaPlAll
import Derived.Test.YtcecopdkaalfkaaPlBegun
namespace Go.Proofs.Ytcecopdkaalfkaa.Pm
open Go.RowKit K NumP NumW NumRd NumZ NumL
set_option linter.unusedVariables false
set_option linter.unusedSimpArgs false
set_option maxRecDepth 100000

theorem p_leafbegun : Pure Try.prog 13 [] (pBool true) := p_leafbegun_of fill_goes
theorem law_LeafTells (l : List EntryD) (hl : hEntL l) (s : List UInt8) (hs : okText s) : Pure Try.prog 3 [slV 2 EntryD.c l, pStr (tx s)] (pBool true) := law_LeafTells_of p_leafbegun l hl s hs
theorem law_LeafBack (l : List EntryD) (hl : hEntL l) (b : Int) (hb : 0 ≤ b ∧ b ≤ 255) : Pure Try.prog 4 [slV 2 EntryD.c l, pInt .u8 b] (pBool true) := law_LeafBack_of p_leafbegun l hl b hb
theorem law_LeafOnly (s : List UInt8) (hs : okText s) : Pure Try.prog 5 [pStr (tx s)] (pBool true) := law_LeafOnly_of p_leafbegun s hs
theorem law_FillTells (l : List EntryD) (hl : hEntL l) : Pure Try.prog 6 [slV 2 EntryD.c l] (pBool true) := law_FillTells_of p_leafbegun fill_goes l hl
theorem law_FillAll (l : List EntryD) (hl : hEntL l) : Pure Try.prog 7 [slV 2 EntryD.c l] (pBool true) := law_FillAll_of p_leafbegun fill_goes l hl
end Go.Proofs.Ytcecopdkaalfkaa.Pm
