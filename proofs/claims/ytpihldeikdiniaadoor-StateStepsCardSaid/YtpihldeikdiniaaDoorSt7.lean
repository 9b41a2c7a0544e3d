/- StateSteps: of any state and any event. -/
import Derived.Test.YtpihldeikdiniaaDoorSt6
namespace Go.Proofs.YtpihldeikdiniaaDoor
open Go.RowKit
set_option linter.unusedVariables false
set_option linter.unusedSimpArgs false
theorem enumI {n : Nat} {P : Int → Prop} (h : ∀ i : Fin n, P (i.val : Int)) (x : Int) (h0 : 0 ≤ x) (h1 : x < n) : P x := by
  have := h ⟨x.toNat, by omega⟩
  simpa [Int.toNat_of_nonneg h0] using this
def StepOK (s e : Int) : Prop :=
  (e ≤ 3 → ((refDo (atF s) e).2 = 1 ∧ sendF s e = (0, 25) ∧ mayB s e = false) ∨ ((refDo (atF s) e).2 = 0 ∧ sendF s e = ((refDo (atF s) e).1.num, 0) ∧ mayB s e = true)) ∧
  (4 ≤ e → ((refDo (atF s) e).2 = 2 ∧ getF s e = (s, 101, true) ∧ mayB s e = false) ∨ ((refDo (atF s) e).2 = 3 ∧ getF s e = (4, 105, false) ∧ mayB s e = false) ∨ ((refDo (atF s) e).2 = 0 ∧ getF s e = ((refDo (atF s) e).1.num, 0, false) ∧ mayB s e = true))
instance (s e : Int) : Decidable (StepOK s e) := by unfold StepOK; infer_instance
theorem stepOK (s e : Int) (hs : 0 ≤ s) (hs4 : s < 5) (he : 0 ≤ e) (h8 : e < 9) : StepOK s e :=
  enumI (n := 5) (P := fun s => ∀ e, 0 ≤ e → e < 9 → StepOK s e) (fun i e h0 h8 => enumI (n := 9) (P := fun e => StepOK (i.val : Int) e) ((by decide +kernel : ∀ i : Fin 5, ∀ j : Fin 9, StepOK (i.val : Int) (j.val : Int)) i) e h0 h8) s hs hs4 e he h8
set_option maxRecDepth 100000 in
set_option maxHeartbeats 1000000 in
theorem steps_right_lo (s e : Int) (w : World) (ht : TabOK w) (h : s < 0) :
    Calls Tryd.prog 5 #[.int .i64 s, .int .i64 e] w fun r w' => r = .returned (.bool true) ∧ Below w.heap.size w w' := by
  have hs : sendF s e = (0, 11) := by simp [sendF, rightB, sendsB]; omega
  have hg : getF s e = (4, 102, true) := by simp [getF, rightB, getsB]; omega
  have hm : mayB s e = false := by simp [mayB, rightB]; omega
  have HS := Lib.hid (send_any s e)
  have HG := Lib.hid (get_any s e)
  have HM := Lib.hid (may_any s e)
  rw [hs] at HS
  rw [hg] at HG
  rw [hm] at HM
  have HT := Lib.hid ht
  clear hs hg hm ht
  go_enter Tryd.func5, Tryd.ntmps5
  go_wp2_with (first | (go_at_call 21; refine (HS.out _ HT.out).mono ?_; rintro r w' ⟨rfl, rfl⟩) | (go_at_call 22; refine (HG.out _ HT.out).mono ?_; rintro r w' ⟨rfl, rfl⟩) | (go_at_call 20; refine (HM.out _ ((HT.out.alloc _).alloc _)).mono ?_; rintro r w' ⟨rfl, rfl⟩) | (go_at_call 12; refine (awake_any _ ((HT.out.alloc _).alloc _)).mono ?_; rintro r w1 ⟨rfl, hb1⟩; have HB1 := Lib.hid hb1; clear hb1))
  go_ret
  exact ⟨rfl, bl_then (bl_alloc (bl_alloc (Below.refl _ _) _) _) HB1.out⟩
set_option maxRecDepth 100000 in
set_option maxHeartbeats 1000000 in
theorem steps_right_hi (s e : Int) (w : World) (ht : TabOK w) (h : 4 < s) :
    Calls Tryd.prog 5 #[.int .i64 s, .int .i64 e] w fun r w' => r = .returned (.bool true) ∧ Below w.heap.size w w' := by
  have hs : sendF s e = (0, 11) := by simp [sendF, rightB, sendsB]; omega
  have hg : getF s e = (4, 102, true) := by simp [getF, rightB, getsB]; omega
  have hm : mayB s e = false := by simp [mayB, rightB]; omega
  have HS := Lib.hid (send_any s e)
  have HG := Lib.hid (get_any s e)
  have HM := Lib.hid (may_any s e)
  rw [hs] at HS
  rw [hg] at HG
  rw [hm] at HM
  have HT := Lib.hid ht
  clear hs hg hm ht
  go_enter Tryd.func5, Tryd.ntmps5
  go_wp2_with (first | (go_at_call 21; refine (HS.out _ HT.out).mono ?_; rintro r w' ⟨rfl, rfl⟩) | (go_at_call 22; refine (HG.out _ HT.out).mono ?_; rintro r w' ⟨rfl, rfl⟩) | (go_at_call 20; refine (HM.out _ ((HT.out.alloc _).alloc _)).mono ?_; rintro r w' ⟨rfl, rfl⟩) | (go_at_call 12; refine (awake_any _ ((HT.out.alloc _).alloc _)).mono ?_; rintro r w1 ⟨rfl, hb1⟩; have HB1 := Lib.hid hb1; clear hb1))
  go_ret
  exact ⟨rfl, bl_then (bl_alloc (bl_alloc (Below.refl _ _) _) _) HB1.out⟩
set_option maxRecDepth 100000 in
set_option maxHeartbeats 1000000 in
theorem steps_ev_lo (s e : Int) (w : World) (ht : TabOK w) (h0 : 0 ≤ s) (h1 : s ≤ 4) (h : e < 0) :
    Calls Tryd.prog 5 #[.int .i64 s, .int .i64 e] w fun r w' => r = .returned (.bool true) ∧ Below w.heap.size w w' := by
  have hs : sendF s e = (0, 11) := by simp [sendF, rightB, sendsB]; omega
  have hg : getF s e = (4, 102, true) := by simp [getF, rightB, getsB]; omega
  have hm : mayB s e = false := by simp [mayB, rightB]; omega
  have HS := Lib.hid (send_any s e)
  have HG := Lib.hid (get_any s e)
  have HM := Lib.hid (may_any s e)
  rw [hs] at HS
  rw [hg] at HG
  rw [hm] at HM
  have HT := Lib.hid ht
  clear hs hg hm ht
  go_enter Tryd.func5, Tryd.ntmps5
  go_wp2_with (first | (go_at_call 21; refine (HS.out _ HT.out).mono ?_; rintro r w' ⟨rfl, rfl⟩) | (go_at_call 22; refine (HG.out _ HT.out).mono ?_; rintro r w' ⟨rfl, rfl⟩) | (go_at_call 20; refine (HM.out _ ((HT.out.alloc _).alloc _)).mono ?_; rintro r w' ⟨rfl, rfl⟩) | (go_at_call 12; refine (awake_any _ ((HT.out.alloc _).alloc _)).mono ?_; rintro r w1 ⟨rfl, hb1⟩; have HB1 := Lib.hid hb1; clear hb1))
  go_ret
  exact ⟨rfl, bl_then (bl_alloc (bl_alloc (Below.refl _ _) _) _) HB1.out⟩
set_option maxRecDepth 100000 in
set_option maxHeartbeats 1000000 in
theorem steps_ev_hi (s e : Int) (w : World) (ht : TabOK w) (h0 : 0 ≤ s) (h1 : s ≤ 4) (h : 8 < e) :
    Calls Tryd.prog 5 #[.int .i64 s, .int .i64 e] w fun r w' => r = .returned (.bool true) ∧ Below w.heap.size w w' := by
  have hs : sendF s e = (0, 11) := by simp [sendF, rightB, sendsB]; omega
  have hg : getF s e = (4, 102, true) := by simp [getF, rightB, getsB]; omega
  have hm : mayB s e = false := by simp [mayB, rightB]; omega
  have HS := Lib.hid (send_any s e)
  have HG := Lib.hid (get_any s e)
  have HM := Lib.hid (may_any s e)
  rw [hs] at HS
  rw [hg] at HG
  rw [hm] at HM
  have HT := Lib.hid ht
  clear hs hg hm ht
  go_enter Tryd.func5, Tryd.ntmps5
  go_wp2_with (first | (go_at_call 21; refine (HS.out _ HT.out).mono ?_; rintro r w' ⟨rfl, rfl⟩) | (go_at_call 22; refine (HG.out _ HT.out).mono ?_; rintro r w' ⟨rfl, rfl⟩) | (go_at_call 20; refine (HM.out _ ((HT.out.alloc _).alloc _)).mono ?_; rintro r w' ⟨rfl, rfl⟩) | (go_at_call 12; refine (awake_any _ ((HT.out.alloc _).alloc _)).mono ?_; rintro r w1 ⟨rfl, hb1⟩; have HB1 := Lib.hid hb1; clear hb1))
  go_ret
  exact ⟨rfl, bl_then (bl_alloc (bl_alloc (Below.refl _ _) _) _) HB1.out⟩
set_option maxRecDepth 100000 in
set_option maxHeartbeats 2000000 in
theorem steps_s_no (s e n : Int) (x : RS) (w : World) (ht : TabOK w) (h0 : 0 ≤ s) (h1 : s ≤ 4) (he : 0 ≤ e) (he3 : e ≤ 3) (hx : (refDo (atF s) e).1 = x) (hn : x.num = n) (hw : (refDo (atF s) e).2 = 1) (hs : sendF s e = (0, 25)) (hg : getF s e = (4, 102, true)) (hm : mayB s e = false) :
    Calls Tryd.prog 5 #[.int .i64 s, .int .i64 e] w fun r w' => r = .returned (.bool true) ∧ Below w.heap.size w w' := by
  have HS := Lib.hid (send_any s e)
  have HG := Lib.hid (get_any s e)
  have HM := Lib.hid (may_any s e)
  rw [hs] at HS
  rw [hg] at HG
  rw [hm] at HM
  have HD := Lib.hid (fun w => rdo_any (atF s) e w)
  unfold RdoP at HD
  rw [hx, hw] at HD
  obtain ⟨xb, xy, xt, xr⟩ := x
  have HN := Lib.hid (fun w => rnum_any xb xy xt xr w)
  have hn' : numF xb xy xt xr = n := hn
  rw [hn'] at HN
  unfold RS.val rst at HD
  unfold rst rstO at HN
  have HT := Lib.hid ht
  clear hs hg hm ht hx hn hn' hw
  go_enter Tryd.func5, Tryd.ntmps5
  go_wp2_with (first | (go_at_call 21; refine (HS.out _ HT.out).mono ?_; rintro r w' ⟨rfl, rfl⟩) | (go_at_call 22; refine (HG.out _ HT.out).mono ?_; rintro r w' ⟨rfl, rfl⟩))
  refine (sat_any _ _).mono ?_
  rintro r w1 ⟨rfl, hb1⟩
  have HB1 := Lib.hid hb1
  have HT1 := Lib.hid (((HT.out.alloc _).alloc _).bl hb1)
  have hz1 : w.heap.size + 1 + 1 ≤ w1.heap.size := by simpa using hb1.size
  have k0 : w1.cell? ⟨w.heap.size + 1, 0, none⟩ = some (.int .i64 102) := (hb1.cell (p := ⟨w.heap.size + 1, 0, none⟩) (by simp)).trans (by simp [World.cell?_alloc_at])
  have k1 : w1.cell? ⟨w.heap.size + 1, 1, none⟩ = some (.bool true) := (hb1.cell (p := ⟨w.heap.size + 1, 1, none⟩) (by simp)).trans (by simp [World.cell?_alloc_at])
  obtain ⟨⟨hne, hne1, hne2, hne3, hne4, hne5⟩, hlt1, hlt2, hlt3, hlt4, hlt5⟩ := ne_new (show w.heap.size + 1 < w1.heap.size by omega)
  have hlt0 : w.heap.size + 1 < w1.heap.size := by omega
  clear hb1
  go_wp2_with fail
  refine (HD.out _).mono ?_
  rintro r w2 ⟨rfl, o1, o2, o3, rfl⟩
  go_wp2_with (first | (go_at_call 19; refine (HN.out _).mono ?_; rintro r w' ⟨rfl, rfl⟩) | (go_at_call 20; refine (HM.out _ (by repeat (first | exact HT1.out | apply TabOK.alloc))).mono ?_; rintro r w' ⟨rfl, rfl⟩) | (go_at_call 24; refine (done_any _ _).mono ?_; rintro r w' ⟨rfl, rfl⟩) | (go_at_call 15; refine (ok_any _ _ _).mono ?_; rintro r w' ⟨rfl, rfl⟩) | (go_at_call 12; refine (awake_any _ (by repeat (first | exact HT1.out | apply TabOK.alloc))).mono ?_; rintro r w3 ⟨rfl, hb3⟩; have HB3 := Lib.hid hb3; clear hb3))
  go_ret
  exact ⟨rfl, bl_then (by repeat (first | exact bl_then (bl_alloc (bl_alloc (Below.refl _ _) _) _) HB1.out | apply bl_alloc)) HB3.out⟩
set_option maxRecDepth 100000 in
set_option maxHeartbeats 2000000 in
theorem steps_s_yes (s e n : Int) (x : RS) (w : World) (ht : TabOK w) (h0 : 0 ≤ s) (h1 : s ≤ 4) (he : 0 ≤ e) (he3 : e ≤ 3) (hx : (refDo (atF s) e).1 = x) (hn : x.num = n) (hw : (refDo (atF s) e).2 = 0) (hs : sendF s e = (n, 0)) (hg : getF s e = (4, 102, true)) (hm : mayB s e = true) :
    Calls Tryd.prog 5 #[.int .i64 s, .int .i64 e] w fun r w' => r = .returned (.bool true) ∧ Below w.heap.size w w' := by
  have HS := Lib.hid (send_any s e)
  have HG := Lib.hid (get_any s e)
  have HM := Lib.hid (may_any s e)
  rw [hs] at HS
  rw [hg] at HG
  rw [hm] at HM
  have HD := Lib.hid (fun w => rdo_any (atF s) e w)
  unfold RdoP at HD
  rw [hx, hw] at HD
  obtain ⟨xb, xy, xt, xr⟩ := x
  have HN := Lib.hid (fun w => rnum_any xb xy xt xr w)
  have hn' : numF xb xy xt xr = n := hn
  rw [hn'] at HN
  unfold RS.val rst at HD
  unfold rst rstO at HN
  have HT := Lib.hid ht
  clear hs hg hm ht hx hn hn' hw
  go_enter Tryd.func5, Tryd.ntmps5
  go_wp2_with (first | (go_at_call 21; refine (HS.out _ HT.out).mono ?_; rintro r w' ⟨rfl, rfl⟩) | (go_at_call 22; refine (HG.out _ HT.out).mono ?_; rintro r w' ⟨rfl, rfl⟩))
  refine (sat_any _ _).mono ?_
  rintro r w1 ⟨rfl, hb1⟩
  have HB1 := Lib.hid hb1
  have HT1 := Lib.hid (((HT.out.alloc _).alloc _).bl hb1)
  have hz1 : w.heap.size + 1 + 1 ≤ w1.heap.size := by simpa using hb1.size
  have k0 : w1.cell? ⟨w.heap.size + 1, 0, none⟩ = some (.int .i64 102) := (hb1.cell (p := ⟨w.heap.size + 1, 0, none⟩) (by simp)).trans (by simp [World.cell?_alloc_at])
  have k1 : w1.cell? ⟨w.heap.size + 1, 1, none⟩ = some (.bool true) := (hb1.cell (p := ⟨w.heap.size + 1, 1, none⟩) (by simp)).trans (by simp [World.cell?_alloc_at])
  obtain ⟨⟨hne, hne1, hne2, hne3, hne4, hne5⟩, hlt1, hlt2, hlt3, hlt4, hlt5⟩ := ne_new (show w.heap.size + 1 < w1.heap.size by omega)
  have hlt0 : w.heap.size + 1 < w1.heap.size := by omega
  clear hb1
  go_wp2_with fail
  refine (HD.out _).mono ?_
  rintro r w2 ⟨rfl, o1, o2, o3, rfl⟩
  go_wp2_with (first | (go_at_call 19; refine (HN.out _).mono ?_; rintro r w' ⟨rfl, rfl⟩) | (go_at_call 20; refine (HM.out _ (by repeat (first | exact HT1.out | apply TabOK.alloc))).mono ?_; rintro r w' ⟨rfl, rfl⟩) | (go_at_call 24; refine (done_any _ _).mono ?_; rintro r w' ⟨rfl, rfl⟩) | (go_at_call 15; refine (ok_any _ _ _).mono ?_; rintro r w' ⟨rfl, rfl⟩) | (go_at_call 12; refine (awake_any _ (by repeat (first | exact HT1.out | apply TabOK.alloc))).mono ?_; rintro r w3 ⟨rfl, hb3⟩; have HB3 := Lib.hid hb3; clear hb3))
  go_ret
  exact ⟨rfl, bl_then (by repeat (first | exact bl_then (bl_alloc (bl_alloc (Below.refl _ _) _) _) HB1.out | apply bl_alloc)) HB3.out⟩
set_option maxRecDepth 100000 in
set_option maxHeartbeats 2000000 in
theorem steps_g_conn (s e n : Int) (x : RS) (w : World) (ht : TabOK w) (h0 : 0 ≤ s) (h1 : s ≤ 4) (he : 4 ≤ e) (he3 : e ≤ 8) (hx : (refDo (atF s) e).1 = x) (hn : x.num = n) (hw : (refDo (atF s) e).2 = 2) (hs : sendF s e = (0, 11)) (hg : getF s e = (s, 101, true)) (hm : mayB s e = false) :
    Calls Tryd.prog 5 #[.int .i64 s, .int .i64 e] w fun r w' => r = .returned (.bool true) ∧ Below w.heap.size w w' := by
  have HS := Lib.hid (send_any s e)
  have HG := Lib.hid (get_any s e)
  have HM := Lib.hid (may_any s e)
  rw [hs] at HS
  rw [hg] at HG
  rw [hm] at HM
  have HD := Lib.hid (fun w => rdo_any (atF s) e w)
  unfold RdoP at HD
  rw [hx, hw] at HD
  obtain ⟨xb, xy, xt, xr⟩ := x
  have HN := Lib.hid (fun w => rnum_any xb xy xt xr w)
  have hn' : numF xb xy xt xr = n := hn
  rw [hn'] at HN
  unfold RS.val rst at HD
  unfold rst rstO at HN
  have HT := Lib.hid ht
  clear hs hg hm ht hx hn hn' hw
  go_enter Tryd.func5, Tryd.ntmps5
  go_wp2_with (first | (go_at_call 21; refine (HS.out _ HT.out).mono ?_; rintro r w' ⟨rfl, rfl⟩) | (go_at_call 22; refine (HG.out _ HT.out).mono ?_; rintro r w' ⟨rfl, rfl⟩))
  refine (sat_any _ _).mono ?_
  rintro r w1 ⟨rfl, hb1⟩
  have HB1 := Lib.hid hb1
  have HT1 := Lib.hid (((HT.out.alloc _).alloc _).bl hb1)
  have hz1 : w.heap.size + 1 + 1 ≤ w1.heap.size := by simpa using hb1.size
  have k0 : w1.cell? ⟨w.heap.size + 1, 0, none⟩ = some (.int .i64 101) := (hb1.cell (p := ⟨w.heap.size + 1, 0, none⟩) (by simp)).trans (by simp [World.cell?_alloc_at])
  have k1 : w1.cell? ⟨w.heap.size + 1, 1, none⟩ = some (.bool true) := (hb1.cell (p := ⟨w.heap.size + 1, 1, none⟩) (by simp)).trans (by simp [World.cell?_alloc_at])
  obtain ⟨⟨hne, hne1, hne2, hne3, hne4, hne5⟩, hlt1, hlt2, hlt3, hlt4, hlt5⟩ := ne_new (show w.heap.size + 1 < w1.heap.size by omega)
  have hlt0 : w.heap.size + 1 < w1.heap.size := by omega
  clear hb1
  go_wp2_with fail
  refine (HD.out _).mono ?_
  rintro r w2 ⟨rfl, o1, o2, o3, rfl⟩
  go_wp2_with (first | (go_at_call 19; refine (HN.out _).mono ?_; rintro r w' ⟨rfl, rfl⟩) | (go_at_call 20; refine (HM.out _ (by repeat (first | exact HT1.out | apply TabOK.alloc))).mono ?_; rintro r w' ⟨rfl, rfl⟩) | (go_at_call 24; refine (done_any _ _).mono ?_; rintro r w' ⟨rfl, rfl⟩) | (go_at_call 15; refine (ok_any _ _ _).mono ?_; rintro r w' ⟨rfl, rfl⟩) | (go_at_call 12; refine (awake_any _ (by repeat (first | exact HT1.out | apply TabOK.alloc))).mono ?_; rintro r w3 ⟨rfl, hb3⟩; have HB3 := Lib.hid hb3; clear hb3))
  go_ret
  exact ⟨rfl, bl_then (by repeat (first | exact bl_then (bl_alloc (bl_alloc (Below.refl _ _) _) _) HB1.out | apply bl_alloc)) HB3.out⟩
set_option maxRecDepth 100000 in
set_option maxHeartbeats 2000000 in
theorem steps_g_shut (s e n : Int) (x : RS) (w : World) (ht : TabOK w) (h0 : 0 ≤ s) (h1 : s ≤ 4) (he : 4 ≤ e) (he3 : e ≤ 8) (hx : (refDo (atF s) e).1 = x) (hn : x.num = n) (hw : (refDo (atF s) e).2 = 3) (hs : sendF s e = (0, 11)) (hg : getF s e = (4, 105, false)) (hm : mayB s e = false) :
    Calls Tryd.prog 5 #[.int .i64 s, .int .i64 e] w fun r w' => r = .returned (.bool true) ∧ Below w.heap.size w w' := by
  have HS := Lib.hid (send_any s e)
  have HG := Lib.hid (get_any s e)
  have HM := Lib.hid (may_any s e)
  rw [hs] at HS
  rw [hg] at HG
  rw [hm] at HM
  have HD := Lib.hid (fun w => rdo_any (atF s) e w)
  unfold RdoP at HD
  rw [hx, hw] at HD
  obtain ⟨xb, xy, xt, xr⟩ := x
  have HN := Lib.hid (fun w => rnum_any xb xy xt xr w)
  have hn' : numF xb xy xt xr = n := hn
  rw [hn'] at HN
  unfold RS.val rst at HD
  unfold rst rstO at HN
  have HT := Lib.hid ht
  clear hs hg hm ht hx hn hn' hw
  go_enter Tryd.func5, Tryd.ntmps5
  go_wp2_with (first | (go_at_call 21; refine (HS.out _ HT.out).mono ?_; rintro r w' ⟨rfl, rfl⟩) | (go_at_call 22; refine (HG.out _ HT.out).mono ?_; rintro r w' ⟨rfl, rfl⟩))
  refine (sat_any _ _).mono ?_
  rintro r w1 ⟨rfl, hb1⟩
  have HB1 := Lib.hid hb1
  have HT1 := Lib.hid (((HT.out.alloc _).alloc _).bl hb1)
  have hz1 : w.heap.size + 1 + 1 ≤ w1.heap.size := by simpa using hb1.size
  have k0 : w1.cell? ⟨w.heap.size + 1, 0, none⟩ = some (.int .i64 105) := (hb1.cell (p := ⟨w.heap.size + 1, 0, none⟩) (by simp)).trans (by simp [World.cell?_alloc_at])
  have k1 : w1.cell? ⟨w.heap.size + 1, 1, none⟩ = some (.bool false) := (hb1.cell (p := ⟨w.heap.size + 1, 1, none⟩) (by simp)).trans (by simp [World.cell?_alloc_at])
  obtain ⟨⟨hne, hne1, hne2, hne3, hne4, hne5⟩, hlt1, hlt2, hlt3, hlt4, hlt5⟩ := ne_new (show w.heap.size + 1 < w1.heap.size by omega)
  have hlt0 : w.heap.size + 1 < w1.heap.size := by omega
  clear hb1
  go_wp2_with fail
  refine (HD.out _).mono ?_
  rintro r w2 ⟨rfl, o1, o2, o3, rfl⟩
  go_wp2_with (first | (go_at_call 19; refine (HN.out _).mono ?_; rintro r w' ⟨rfl, rfl⟩) | (go_at_call 20; refine (HM.out _ (by repeat (first | exact HT1.out | apply TabOK.alloc))).mono ?_; rintro r w' ⟨rfl, rfl⟩) | (go_at_call 24; refine (done_any _ _).mono ?_; rintro r w' ⟨rfl, rfl⟩) | (go_at_call 15; refine (ok_any _ _ _).mono ?_; rintro r w' ⟨rfl, rfl⟩) | (go_at_call 12; refine (awake_any _ (by repeat (first | exact HT1.out | apply TabOK.alloc))).mono ?_; rintro r w3 ⟨rfl, hb3⟩; have HB3 := Lib.hid hb3; clear hb3))
  go_ret
  exact ⟨rfl, bl_then (by repeat (first | exact bl_then (bl_alloc (bl_alloc (Below.refl _ _) _) _) HB1.out | apply bl_alloc)) HB3.out⟩
set_option maxRecDepth 100000 in
set_option maxHeartbeats 2000000 in
theorem steps_g_yes (s e n : Int) (x : RS) (w : World) (ht : TabOK w) (h0 : 0 ≤ s) (h1 : s ≤ 4) (he : 4 ≤ e) (he3 : e ≤ 8) (hx : (refDo (atF s) e).1 = x) (hn : x.num = n) (hw : (refDo (atF s) e).2 = 0) (hs : sendF s e = (0, 11)) (hg : getF s e = (n, 0, false)) (hm : mayB s e = true) :
    Calls Tryd.prog 5 #[.int .i64 s, .int .i64 e] w fun r w' => r = .returned (.bool true) ∧ Below w.heap.size w w' := by
  have HS := Lib.hid (send_any s e)
  have HG := Lib.hid (get_any s e)
  have HM := Lib.hid (may_any s e)
  rw [hs] at HS
  rw [hg] at HG
  rw [hm] at HM
  have HD := Lib.hid (fun w => rdo_any (atF s) e w)
  unfold RdoP at HD
  rw [hx, hw] at HD
  obtain ⟨xb, xy, xt, xr⟩ := x
  have HN := Lib.hid (fun w => rnum_any xb xy xt xr w)
  have hn' : numF xb xy xt xr = n := hn
  rw [hn'] at HN
  unfold RS.val rst at HD
  unfold rst rstO at HN
  have HT := Lib.hid ht
  clear hs hg hm ht hx hn hn' hw
  go_enter Tryd.func5, Tryd.ntmps5
  go_wp2_with (first | (go_at_call 21; refine (HS.out _ HT.out).mono ?_; rintro r w' ⟨rfl, rfl⟩) | (go_at_call 22; refine (HG.out _ HT.out).mono ?_; rintro r w' ⟨rfl, rfl⟩))
  refine (sat_any _ _).mono ?_
  rintro r w1 ⟨rfl, hb1⟩
  have HB1 := Lib.hid hb1
  have HT1 := Lib.hid (((HT.out.alloc _).alloc _).bl hb1)
  have hz1 : w.heap.size + 1 + 1 ≤ w1.heap.size := by simpa using hb1.size
  have k0 : w1.cell? ⟨w.heap.size + 1, 0, none⟩ = some (.int .i64 0) := (hb1.cell (p := ⟨w.heap.size + 1, 0, none⟩) (by simp)).trans (by simp [World.cell?_alloc_at])
  have k1 : w1.cell? ⟨w.heap.size + 1, 1, none⟩ = some (.bool false) := (hb1.cell (p := ⟨w.heap.size + 1, 1, none⟩) (by simp)).trans (by simp [World.cell?_alloc_at])
  obtain ⟨⟨hne, hne1, hne2, hne3, hne4, hne5⟩, hlt1, hlt2, hlt3, hlt4, hlt5⟩ := ne_new (show w.heap.size + 1 < w1.heap.size by omega)
  have hlt0 : w.heap.size + 1 < w1.heap.size := by omega
  clear hb1
  go_wp2_with fail
  refine (HD.out _).mono ?_
  rintro r w2 ⟨rfl, o1, o2, o3, rfl⟩
  go_wp2_with (first | (go_at_call 19; refine (HN.out _).mono ?_; rintro r w' ⟨rfl, rfl⟩) | (go_at_call 20; refine (HM.out _ (by repeat (first | exact HT1.out | apply TabOK.alloc))).mono ?_; rintro r w' ⟨rfl, rfl⟩) | (go_at_call 24; refine (done_any _ _).mono ?_; rintro r w' ⟨rfl, rfl⟩) | (go_at_call 15; refine (ok_any _ _ _).mono ?_; rintro r w' ⟨rfl, rfl⟩) | (go_at_call 12; refine (awake_any _ (by repeat (first | exact HT1.out | apply TabOK.alloc))).mono ?_; rintro r w3 ⟨rfl, hb3⟩; have HB3 := Lib.hid hb3; clear hb3))
  go_ret
  exact ⟨rfl, bl_then (by repeat (first | exact bl_then (bl_alloc (bl_alloc (Below.refl _ _) _) _) HB1.out | apply bl_alloc)) HB3.out⟩
theorem steps_all (s e : Int) (w : World) (ht : TabOK w) :
    Calls Tryd.prog 5 #[.int .i64 s, .int .i64 e] w fun r w' => r = .returned (.bool true) ∧ Below w.heap.size w w' := by
  by_cases h0 : 0 ≤ s
  · by_cases h1 : s ≤ 4
    · by_cases he : 0 ≤ e
      · by_cases h8 : e ≤ 8
        · have hk := stepOK s e h0 (by omega) he (by omega)
          by_cases h3 : e ≤ 3
          · have hg : getF s e = (4, 102, true) := by simp [getF, getsB]; omega
            rcases hk.1 h3 with ⟨a, b, c⟩ | ⟨a, b, c⟩
            · exact steps_s_no s e _ _ w ht h0 h1 he h3 rfl rfl a b hg c
            · exact steps_s_yes s e _ _ w ht h0 h1 he h3 rfl rfl a b hg c
          · have hs : sendF s e = (0, 11) := by simp [sendF, sendsB]; omega
            rcases hk.2 (by omega) with ⟨a, b, c⟩ | ⟨a, b, c⟩ | ⟨a, b, c⟩
            · exact steps_g_conn s e _ _ w ht h0 h1 (by omega) h8 rfl rfl a hs b c
            · exact steps_g_shut s e _ _ w ht h0 h1 (by omega) h8 rfl rfl a hs b c
            · exact steps_g_yes s e _ _ w ht h0 h1 (by omega) h8 rfl rfl a hs b c
        · exact steps_ev_hi s e w ht h0 h1 (by omega)
      · exact steps_ev_lo s e w ht h0 h1 (by omega)
    · exact steps_right_hi s e w ht (by omega)
  · exact steps_right_lo s e w ht (by omega)
end Go.Proofs.YtpihldeikdiniaaDoor
