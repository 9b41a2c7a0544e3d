/- Package queue: Drop's closure. -/
import Derived.Test.YtpihldeikdiniaaQ14
namespace Go.Proofs.Ytpihldeikdiniaa
open Go.RowKit
set_option linter.unusedVariables false
set_option linter.unusedSimpArgs false
set_option maxRecDepth 100000 in
set_option maxHeartbeats 1600000 in
theorem pred_any (xn n : Int) (A A' : Option Addr) (l c l' c' p : Nat) (w : World) (hp : w.cell? ⟨p, 0, none⟩ = some (.int .i64 n)) :
    Calls Try.prog 112 #[.agg #[.int .i64 xn, .slice A l c, .slice A' l' c'], .pointer (some ⟨p, 0, none⟩)] w fun e w' => e = .returned (.bool (xn == n)) ∧ w' = w.alloc (.cells #[.int .i64 xn, .slice A l c, .slice A' l' c'] 57) := by
  have hlt : p < w.heap.size := World.block_lt_of_cell? w _ hp
  obtain ⟨⟨hne, hne1, hne2, hne3, hne4, hne5⟩, hlt1, hlt2, hlt3, hlt4, hlt5⟩ := ne_new hlt
  go_enter Try.func112, Try.ntmps112
  go_wp2_with fail
  all_goals go_ret
  all_goals exact ⟨by simp [*], rfl⟩
end Go.Proofs.Ytpihldeikdiniaa
