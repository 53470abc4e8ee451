/- tenementref09.Parse at every text. -/
import Derived.Test.YthchkhfnhhpleaaDoorRefParse2
namespace Go.Proofs.YthchkhfnhhpleaaDoor
open Go.RowKit Go.Shelf
set_option maxRecDepth 100000

theorem rparse_any (s : ByteArray) (w : World) : Calls Tryd.prog 17 #[.string s] w (ParsePost s.data.toList w) := by
  rw [show s = txt s.data.toList from (txt_of s).symm]
  generalize s.data.toList = L
  rw [txt_toList]
  by_cases h1 : 256 < L.length
  · exact rparse_long L w h1
  · match L, h1 with
    | [], h1 => exact rparse_nil w
    | c :: l, h1 =>
      by_cases hc : c = 47
      · subst hc
        by_cases hl2 : l = []
        · subst hl2
          exact rparse_root w
        · exact rparse_names l hl2 (by simp only [List.length_cons] at h1; omega) w
      · exact rparse_other c l w (by omega) hc

end Go.Proofs.YthchkhfnhhpleaaDoor
