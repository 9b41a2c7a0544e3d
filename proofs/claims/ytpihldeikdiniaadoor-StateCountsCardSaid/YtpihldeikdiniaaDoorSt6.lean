/- The fixed answers of layer 13's statements, and its helper at. -/
import Derived.Test.YtpihldeikdiniaaDoorSt3
import Derived.Test.YtpihldeikdiniaaDoorSt5
namespace Go.Proofs.YtpihldeikdiniaaDoor
open Go.RowKit
set_option linter.unusedVariables false
set_option linter.unusedSimpArgs false
theorem TabOK.alloc {w : World} (h : TabOK w) (o : Obj) : TabOK (w.alloc o) := h.frm (Frm.of_below (S := NoS) (bl_alloc (Below.refl _ _) _)) (fun _ h => h)
theorem TabOK.run {w w' : World} {b o : Nat} (h : TabOK w) (hf : Frm (RunS b o) w w') (hb : 0 < b) : TabOK w' := h.frm hf (fun j hj => by have := hj.1; omega)
theorem TabOK.bl {w w' : World} (h : TabOK w) (hf : Below w.heap.size w w') : TabOK w' := h.frm (Frm.of_below (S := NoS) hf) (fun _ h => h)
theorem RunAt.bl {w w' : World} {b o : Nat} {s : Int} {c : List Int} (h : RunAt w b o s c) (hf : Below w.heap.size w w') : RunAt w' b o s c := h.frm (Frm.of_below (S := NoS) hf) (fun _ _ _ h => h)
/-- What is written to a run that is new since. -/
theorem bl_run {w W W' : World} {b o : Nat} (h : Below w.heap.size w W) (hf : Frm (RunS b o) W W') (hb : w.heap.size ≤ b) : Below w.heap.size w W' :=
  h.trans (hf.belowB h.size (fun k j hk hj => by have := hj.1; omega))
def atF (s : Int) : RS := if s = 1 then ⟨1, 1, 1, 0⟩ else if s = 2 then ⟨1, 1, 0, 0⟩ else if s = 3 then ⟨1, 0, 1, 0⟩ else if s = 4 then ⟨1, 0, 0, 1⟩ else ⟨0, 1, 1, 0⟩
def AtP (s : Int) (w : World) (r : Ending) (w' : World) : Prop := r = .returned (atF s).val ∧ Below w.heap.size w w'
set_option maxHeartbeats 1000000 in
theorem sat_any (s : Int) (w : World) : Calls Tryd.prog 23 #[.int .i64 s] w (AtP s w) := by
  go_enter Tryd.func23, Tryd.ntmps23
  go_wp2_with (go_at_call 13; refine (rnew_any _).mono ?_; rintro r w' ⟨rfl, rfl⟩; unfold rst rstO)
  all_goals
    refine bodyPost_ret (v := (atF s).val) ?_ rfl ⟨rfl, by repeat (first | exact Below.refl _ _ | apply bl_alloc | refine bl_set ?_ (by simp) _)⟩
    simp_all [results, Tryd.results23, go_sem, atF, RS.val, rst]
theorem doF_val {s : Int} {c : List Int} {e : Int} {v} (h : doF s c e = v) : doF s c e = v := h
set_option maxHeartbeats 1000000 in
theorem awake_any (w : World) (ht : TabOK w) :
    Calls Tryd.prog 12 #[] w fun r w' => r = .returned (.bool true) ∧ Below w.heap.size w w' := by
  have e1 : doF 0 (List.replicate 9 0) 0 = (0, (0, false), 1, [1, 0, 0, 0, 0, 0, 0, 0, 0]) := by decide +kernel
  have e2 : doF 1 [1, 0, 0, 0, 0, 0, 0, 0, 0] 2 = (0, (0, false), 3, [1, 0, 1, 0, 0, 0, 0, 0, 0]) := by decide +kernel
  have e3 : doF 3 [1, 0, 1, 0, 0, 0, 0, 0, 0] 6 = (0, (0, false), 4, [1, 0, 1, 0, 0, 0, 1, 0, 0]) := by decide +kernel
  have HT := Lib.hid ht
  have hw0 := ht.1
  clear ht
  have E1 := Lib.hid e1
  have E2 := Lib.hid e2
  have E3 := Lib.hid e3
  clear e1 e2 e3
  go_enter Tryd.func12, Tryd.ntmps12
  go_wp2_with fail
  refine (newrun_any _).mono ?_
  rintro r w1 ⟨b, rfl, hb, hr1, hb1⟩
  have HR := Lib.hid hr1
  have HB := Lib.hid hb1
  have HT1 := Lib.hid (HT.out.bl hb1)
  clear hr1 hb1
  go_wp2_with fail
  refine (do_any _ _ _ _ _ _ HR.out HT1.out).mono ?_
  rw [E1.out]
  rintro r w2 ⟨rfl, hr2, hf2⟩
  have hz2 := hr2.lt
  have HB2 := Lib.hid (bl_run HB.out hf2 hb)
  have HT2 := Lib.hid (HT1.out.run hf2 (by omega))
  have HR2 := Lib.hid hr2
  clear hr2 hf2 HR HB HT1 E1
  go_wp2_with fail
  refine (do_any _ _ _ _ _ _ (HR2.out.alloc _) (HT2.out.alloc _)).mono ?_
  rw [E2.out]
  rintro r w3 ⟨rfl, hr3, hf3⟩
  have hz3 := hr3.lt
  have HB3 := Lib.hid (bl_run (bl_alloc HB2.out _) hf3 hb)
  have HT3 := Lib.hid ((HT2.out.alloc _).run hf3 (by omega))
  have HR3 := Lib.hid hr3
  clear hr3 hf3 HR2 HB2 HT2 E2
  go_wp2_with fail
  refine (do_any _ _ _ _ _ _ (HR3.out.alloc _) (HT3.out.alloc _)).mono ?_
  rw [E3.out]
  rintro r w4 ⟨rfl, hr4, hf4⟩
  have hz4 := hr4.lt
  have HB4 := Lib.hid (bl_run (bl_alloc HB3.out _) hf4 hb)
  have HT4 := Lib.hid ((HT3.out.alloc _).run hf4 (by omega))
  have HR4 := Lib.hid hr4
  clear hr4 hf4 HR3 HB3 HT3 E3
  go_wp2_with fail
  have E5 : Hid (getF 0 5 = (0, 101, true)) := by unfold Hid; decide +kernel
  refine (get_any _ _ _ (HT4.out.alloc _)).mono ?_
  rw [E5.out]
  rintro r w5 ⟨rfl, rfl⟩
  go_wp2_with (first | (go_at_call 18; refine (at_any _ _ _ _ _ (((HR4.out.alloc _).alloc _).alloc _)).mono ?_; rintro r w' ⟨rfl, rfl⟩) | (go_at_call 16; refine (count_any _ _ _ _ _ _ (((HR4.out.alloc _).alloc _).alloc _)).mono ?_; rintro r w' ⟨rfl, rfl⟩) | (go_at_call 20; refine (may_any _ _ _ (((HT4.out.alloc _).alloc _).alloc _)).mono ?_; rintro r w' ⟨rfl, rfl⟩))
  go_ret
  refine ⟨?_, ?_⟩
  · apply ret_bool
    decide +kernel
  · repeat (first | exact HB4.out | apply bl_alloc)
end Go.Proofs.YtpihldeikdiniaaDoor
