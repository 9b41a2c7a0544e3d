/- Package squintlaw18: right at no calls; QueueNew, walked. -/
import Derived.Test.YtpihldeikdiniaaQ15
namespace Go.Proofs.Ytpihldeikdiniaa
open Go.RowKit
set_option linter.unusedVariables false
set_option linter.unusedSimpArgs false
def RightPost (T B I : Int) (w : World) (e : Ending) (w' : World) : Prop := ∃ b : Bool, e = .returned (.bool b) ∧ (b = true ↔ newOK T B I) ∧ Below w.heap.size w w'
set_option maxRecDepth 100000 in
set_option maxHeartbeats 3200000 in
theorem right_nil (T B I : Int) (w : World) : Calls Try.prog 38 #[.agg #[.int .i64 T, .int .i64 B, .int .i64 I, .slice none 0 0]] w (RightPost T B I w) := by
  go_enter Try.func38, Try.ntmps38
  go_wp2_with fail
  obtain ⟨W, hW⟩ : ∃ W, W = w.alloc (.cells #[.int .i64 T, .int .i64 B, .int .i64 I, .slice none 0 0] 71) := ⟨_, rfl⟩
  rw [← hW]
  have g0 : W.cell? ⟨w.heap.size, 0, none⟩ = some (.int .i64 T) := by rw [hW]; exact World.cell?_alloc_at _ _ _ _ rfl
  have g1 : W.cell? ⟨w.heap.size, 1, none⟩ = some (.int .i64 B) := by rw [hW]; exact World.cell?_alloc_at _ _ _ _ rfl
  have g2 : W.cell? ⟨w.heap.size, 2, none⟩ = some (.int .i64 I) := by rw [hW]; exact World.cell?_alloc_at _ _ _ _ rfl
  have HB : Hid (Below w.heap.size w W) := by unfold Hid; rw [hW]; exact bl_alloc (Below.refl _ _) _
  clear hW
  go_loopw [3, 9] (fun n i wr => n = .int .i64 0 ∧ i = .int .i64 0 ∧ wr = W) (fun _ _ _ => 0)
  case atStart => exact ⟨rfl, rfl, rfl⟩
  case round =>
    obtain ⟨rfl, rfl, rfl⟩ := hrel
    by_cases h1 : 1 ≤ T
    · by_cases h2 : T ≤ 64
      · by_cases h3 : 0 ≤ B
        · by_cases h4 : B ≤ 1048576
          · by_cases h5 : 1 ≤ I
            · by_cases h6 : I ≤ 4096
              · go_wp2_with fail
                all_goals go_ret
                all_goals exact ⟨_, rfl, by unfold newOK; simp; omega, HB.out⟩
              · go_wp2_with fail
                all_goals go_ret
                all_goals exact ⟨_, rfl, by unfold newOK; simp; omega, HB.out⟩
            · go_wp2_with fail
              all_goals go_ret
              all_goals exact ⟨_, rfl, by unfold newOK; simp; omega, HB.out⟩
          · go_wp2_with fail
            all_goals go_ret
            all_goals exact ⟨_, rfl, by unfold newOK; simp; omega, HB.out⟩
        · go_wp2_with fail
          all_goals go_ret
          all_goals exact ⟨_, rfl, by unfold newOK; simp; omega, HB.out⟩
      · go_wp2_with fail
        all_goals go_ret
        all_goals exact ⟨_, rfl, by unfold newOK; simp; omega, HB.out⟩
    · go_wp2_with fail
      all_goals go_ret
      all_goals exact ⟨_, rfl, by unfold newOK; simp; omega, HB.out⟩
set_option maxRecDepth 100000 in
set_option maxHeartbeats 3200000 in
theorem queueNew_walk (T B I : Int) (w : World) : Calls Try.prog 7 #[.int .i64 T, .int .i64 B, .int .i64 I] w fun e w' => e = .returned (.bool true) ∧ Below w.heap.size w w' := by
  by_cases hok : newOK T B I
  · go_enter Try.func7, Try.ntmps7
    go_wp2_with fail
    refine (new_yes T B I w hok).mono ?_
    rintro r w1 ⟨q, bl, tg, rfl, hq, htg, hb⟩
    have HQ := Lib.hid hq
    have HB := Lib.hid hb
    have HTG : Hid (∀ k, k < w.heap.size → tg k = 0) := fun k hk => by
      by_cases e : tg k = 0
      · exact e
      · have := htg k e; omega
    clear hq htg hb
    go_wp2_with fail
    refine (right_nil T B I w1).mono ?_
    rintro r w2 ⟨b, rfl, hbo, hb2⟩
    obtain rfl : b = true := hbo.2 hok
    have HB2 := Lib.hid hb2
    have HQ2 := Lib.hid (HQ.out.frm (Frm.of_below (S := NoS) hb2) (fun _ _ _ h => h))
    have HL := Lib.hid (len_any 0 _ HQ2.out)
    rw [show mAt (fun _ => []) T.toNat 0 = [] from by simp [mAt]] at HL
    have HC := Lib.hid (clear_any _ HQ2.out)
    clear hb2 hbo hok
    go_wp2_with (first | (go_at_call 39; refine HL.out.mono ?_; rintro r w' ⟨rfl, rfl⟩; clear HL) | fail)
    refine HC.out.mono ?_
    rintro r w3 ⟨rfl, _, hf3⟩
    have hls : ∀ k, lsum (fun _ => []) k = 0 := fun k => by induction k with
      | zero => rfl
      | succ k ih => simp [lsum, ih]
    rw [hls]
    have HF3 : Hid (Frm NoS w w3) := ((Frm.of_below HB.out).trans (Frm.of_below (S := NoS) HB2.out)).then_ hf3 (fun b j hb hS => by have := HTG.out b hb; omega)
    clear hf3 hls HC HQ HQ2 HB HB2 HTG
    go_wp2_with (go_at_call 31; refine (awake18_any _).mono ?_; rintro r w4 ⟨rfl, hb4⟩; have HB4 := Lib.hid hb4; clear hb4)
    go_ret
    exact ⟨rfl, bl_then HF3.out.no HB4.out⟩
  · go_enter Try.func7, Try.ntmps7
    go_wp2_with fail
    refine (new_no T B I w hok).mono ?_
    rintro r w1 ⟨rfl, rfl⟩
    go_wp2_with fail
    refine (right_nil T B I w).mono ?_
    rintro r w2 ⟨b, rfl, hbo, hb2⟩
    obtain rfl : b = false := by cases b with
      | false => rfl
      | true => exact absurd (hbo.1 rfl) hok
    have HB2 := Lib.hid hb2
    clear hb2 hbo hok
    go_wp2_with (go_at_call 31; refine (awake18_any _).mono ?_; rintro r w4 ⟨rfl, hb4⟩; have HB4 := Lib.hid hb4; clear hb4)
    go_ret
    exact ⟨rfl, bl_then HB2.out HB4.out⟩
end Go.Proofs.Ytpihldeikdiniaa
