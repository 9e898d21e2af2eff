/- What a row that lists the tables gives: the powers of ten stand; no condition. -/
import Derived.Test.YtcmbjkidgemdaaaDoorRows
import Derived.Lib.ItoaMem
import Derived.Lib.LaidTab
import Derived.LaidMore
import Derived.Test.YtcmbjkidgemdaaaDoorST3
namespace Go.Proofs.YtcmbjkidgemdaaaDoor
set_option linter.unusedSimpArgs false
set_option linter.unusedVariables false
open Go.RowKit
theorem tab_laid {W : World} (h : laidMetH Tryd.prog [("math/bits.deBruijn32tab", Rows.laid_math_bits_deBruijn32tab), ("math/bits.deBruijn64tab", Rows.laid_math_bits_deBruijn64tab), ("internal/strconv.uint64pow10", Rows.laid_internal_strconv_uint64pow10)] W) :
    Lib.TabIs Tryd.prog W "internal/strconv.uint64pow10" .u64 Lib.pow10Tab := by
  rw [MakeChecks.laidMetH_plain _ _ _ (by kernel_rfl)] at h
  obtain ⟨ps, ⟨g0, t0, cs0, f0, p0, q0, hg0, ht0, hv0, hd0, ⟨g1, t1, cs1, f1, p1, q1, hg1, ht1, hv1, hd1, ⟨g2, t2, cs2, f2, p2, q2, hg2, ht2, hv2, hd2, _, _⟩, _⟩, _⟩, _, _⟩ := h
  have hgt : (Tryd.prog.globals[g2]?).map (·.type) = some 158 := by
    have : (Tryd.prog.globalNamed "internal/strconv.uint64pow10").bind (fun g => (Tryd.prog.globals[g]?).map (·.type)) = some 158 := by kernel_rfl
    rw [hg2] at this
    exact this
  obtain rfl := Option.some.inj (hgt.symm.trans ht2)
  rw [show (Rows.laid_internal_strconv_uint64pow10 : DataW Unit) = Lib.tabData .u64 Lib.pow10Tab by kernel_rfl] at hd2
  unfold Lib.TabIs
  rw [hv2, ← Lib.cells_of_tab (n := 20) Tryd.underlying158 Tryd.underlying142 (by kernel_rfl) (by kernel_rfl) hd2]
end Go.Proofs.YtcmbjkidgemdaaaDoor
