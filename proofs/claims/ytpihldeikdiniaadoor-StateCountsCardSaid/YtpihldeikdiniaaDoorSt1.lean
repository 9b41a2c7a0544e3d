/- The contracts of package state: what each call of a run's or a state's method answers, and what it writes. -/
import Derived.Test.YtpihldeikdiniaaDoorProg
import Derived.Test.YtpihldeikdiniaaDoorBase
namespace Go.Proofs.YtpihldeikdiniaaDoor
open Go.RowKit
set_option linter.unusedVariables false
set_option linter.unusedSimpArgs false

def sendsB (e : Int) : Bool := decide (0 ≤ e) && decide (e ≤ 3)
def getsB (e : Int) : Bool := decide (3 < e) && decide (e < 9)
def rightB (s : Int) : Bool := decide (0 ≤ s) && decide (s < 5)

set_option maxHeartbeats 400000 in
theorem sends_any (e : Int) (w : World) :
    Calls Tryd.prog 39 #[.int .i64 e] w fun r w' => r = .returned (.bool (sendsB e)) ∧ w = w' := by
  unfold sendsB
  go_enter Tryd.func39, Tryd.ntmps39
  go_wp2
  all_goals go_ret
  all_goals (simp_all <;> omega)
set_option maxHeartbeats 400000 in
theorem gets_any (e : Int) (w : World) :
    Calls Tryd.prog 40 #[.int .i64 e] w fun r w' => r = .returned (.bool (getsB e)) ∧ w = w' := by
  unfold getsB
  go_enter Tryd.func40, Tryd.ntmps40
  go_wp2
  all_goals go_ret
  all_goals (simp_all <;> omega)
set_option maxHeartbeats 400000 in
theorem right_any (s : Int) (w : World) :
    Calls Tryd.prog 41 #[.int .i64 s] w fun r w' => r = .returned (.bool (rightB s)) ∧ w = w' := by
  unfold rightB
  go_enter Tryd.func41, Tryd.ntmps41
  go_wp2
  all_goals go_ret
  all_goals (simp_all <;> omega)
set_option maxHeartbeats 400000 in
theorem done_any (s : Int) (w : World) :
    Calls Tryd.prog 24 #[.int .i64 s] w fun r w' => r = .returned (.bool (s == 4)) ∧ w = w' := by
  go_enter Tryd.func24, Tryd.ntmps24
  go_wp2
  go_ret
  simp_all
end Go.Proofs.YtpihldeikdiniaaDoor
