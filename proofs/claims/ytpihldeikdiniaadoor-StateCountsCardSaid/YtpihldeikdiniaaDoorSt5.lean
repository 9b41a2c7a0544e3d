/- The contracts of the reference of layer 13 (who may still send), and how it goes with the table. -/
import Derived.Test.YtpihldeikdiniaaDoorProg
import Derived.Test.YtpihldeikdiniaaDoorBase
namespace Go.Proofs.YtpihldeikdiniaaDoor
open Go.RowKit
set_option linter.unusedVariables false
set_option linter.unusedSimpArgs false
def rst (b y t r : Int) : Value := .agg #[.int .i64 b, .int .i64 y, .int .i64 t, .int .i64 r]
def rstO (b y t r : Int) : Obj := .cells #[.int .i64 b, .int .i64 y, .int .i64 t, .int .i64 r] 27
def numF (b y t r : Int) : Int := if b = 0 then 0 else if r = 1 ∨ (y = 0 ∧ t = 0) then 4 else if t = 0 then 2 else if y = 0 then 3 else 1
structure RS where
  b : Int
  y : Int
  t : Int
  r : Int
  deriving DecidableEq
def RS.num (x : RS) : Int := numF x.b x.y x.t x.r
def RS.val (x : RS) : Value := rst x.b x.y x.t x.r
def RS.obj (x : RS) : Obj := rstO x.b x.y x.t x.r
def refDo (x : RS) (e : Int) : RS × Int :=
  if e ≤ 3 then
    if x.num = 4 ∨ (x.num = 0 ∧ e ≠ 0) ∨ (x.y = 0 ∧ e ≠ 3) then (x, 1)
    else ({ b := 1, y := if e = 2 then 0 else x.y, t := x.t, r := if e = 3 then 1 else x.r }, 0)
  else if x.num = 0 then (x, 2)
  else if e = 7 then ({ x with r := 1 }, 0)
  else if e = 8 then (x, 0)
  else if x.num = 4 ∨ x.t = 0 then ({ x with r := 1 }, 3)
  else (if e = 6 then { x with t := 0 } else x, 0)
set_option maxHeartbeats 400000 in
theorem rnew_any (w : World) :
    Calls Tryd.prog 13 #[] w fun r w' => r = .returned (rst 0 1 1 0) ∧ w' = w.alloc (rstO 0 1 1 0) := by
  unfold rst rstO
  go_enter Tryd.func13, Tryd.ntmps13
  go_wp2
  exact bodyPost_ret (v := .agg #[.int .i64 0, .int .i64 1, .int .i64 1, .int .i64 0]) (by simp [results, Tryd.results13, go_sem]) rfl ⟨rfl, rfl⟩
set_option maxHeartbeats 400000 in
theorem rnum_any (b y t r : Int) (w : World) :
    Calls Tryd.prog 19 #[rst b y t r] w fun e w' => e = .returned (.int .i64 (numF b y t r)) ∧ w' = w.alloc (rstO b y t r) := by
  unfold rst rstO numF
  go_enter Tryd.func19, Tryd.ntmps19
  go_wp2
  all_goals go_ret
  all_goals exact ⟨by simp_all, by simp_all⟩
/-- Three new blocks, whatever they hold. -/
def New3 (w w' : World) : Prop := ∃ o1 o2 o3, w' = ((w.alloc o1).alloc o2).alloc o3
def RdoP (x : RS) (e : Int) (w : World) (r : Ending) (w' : World) : Prop := r = .returned (.tuple #[(refDo x e).1.val, .int .i64 (refDo x e).2]) ∧ New3 w w'
set_option maxHeartbeats 2000000 in
theorem rdo_any (x : RS) (e : Int) (w : World) :
    Calls Tryd.prog 17 #[x.val, .int .i64 e] w (RdoP x e w) := by
  obtain ⟨b, y, t, r⟩ := x
  have HN : Hid (RS.num ⟨b, y, t, r⟩ = numF b y t r) := rfl
  unfold RS.val
  simp only []
  have HC := Lib.hid (fun w => rnum_any b y t r w)
  generalize numF b y t r = n at *
  unfold rst at *
  unfold rstO at *
  go_enter Tryd.func17, Tryd.ntmps17
  go_wp2_with (go_at_call 19; refine (HC.out _).mono ?_; rintro r w' ⟨rfl, rfl⟩)
  all_goals
    have HN' := HN.out
    refine bodyPost_ret (v := .tuple #[(refDo ⟨b, y, t, r⟩ e).1.val, .int .i64 (refDo ⟨b, y, t, r⟩ e).2]) ?_ rfl ⟨rfl, _, _, _, rfl⟩
    first
      | (have h3 : e ≤ 3 := by omega
         simp [results, Tryd.results17, go_sem, refDo, RS.val, rst, h3]
         repeat' split
         all_goals (simp_all <;> omega))
      | (have h3 : ¬ e ≤ 3 := by omega
         simp [results, Tryd.results17, go_sem, refDo, RS.val, rst, h3]
         repeat' split
         all_goals (simp_all <;> omega))
end Go.Proofs.YtpihldeikdiniaaDoor
