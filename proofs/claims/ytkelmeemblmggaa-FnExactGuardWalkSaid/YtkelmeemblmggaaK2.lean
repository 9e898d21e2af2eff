/- Small rewrite rules for cells behind new blocks and stores elsewhere; no condition but what stands at each. -/
import Derived.Test.YtkelmeemblmggaaK0
namespace Go.Proofs.Ytkelmeemblmggaa
set_option linter.unusedSimpArgs false
set_option linter.unusedVariables false
open Go.RowKit
theorem cell_alloc_look (w : World) (o : Obj) (a : Addr) (h : (w.cell? a).isSome = true) : (w.alloc o).cell? a = w.cell? a := by
  obtain ⟨u, hu⟩ := Option.isSome_iff_exists.1 h
  exact World.cell?_alloc_lt w o a (World.block_lt_of_cell? w a hu)
theorem cell_set_far (w : World) (p a : Addr) (v : Value) (h : p.block ≠ a.block) : (w.setCell p v).cell? a = w.cell? a :=
  World.cell?_setCell_other w p a v (fun e => h (by rw [e]))
end Go.Proofs.Ytkelmeemblmggaa
