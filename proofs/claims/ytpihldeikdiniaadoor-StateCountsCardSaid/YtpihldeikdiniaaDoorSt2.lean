/- The contracts of package state: Send, Get, May read the table. -/
import Derived.Test.YtpihldeikdiniaaDoorSt1
namespace Go.Proofs.YtpihldeikdiniaaDoor
open Go.RowKit
set_option linter.unusedVariables false
set_option linter.unusedSimpArgs false
def tabL : List Int := [1, -1, -1, -1, -2, -2, -2, -2, -2, 1, 1, 3, 4, 1, 1, 2, 4, 1, 2, 2, 4, 4, -3, -3, -3, 4, 2, -1, -1, -1, 4, 3, 3, 4, 4, 3, -1, -1, -1, -1, -3, -3, -3, 4, 4]
def tabV (s e : Int) : Int := tabL[s.toNat * 9 + e.toNat]?.getD 0
def TabOK (w : World) : Prop := 0 < w.heap.size ∧ ∀ i, i < 45 → w.cell? ⟨0, i, none⟩ = some (.int .i64 (tabL[i]?.getD 0))
theorem TabOK.below {B : Nat} {w w' : World} (h : TabOK w) (hb : Below B w w') (hB : 0 < B) : TabOK w' :=
  ⟨Nat.lt_of_lt_of_le h.1 hb.size, fun i hi => (hb.cell (p := ⟨0, i, none⟩) hB).trans (h.2 i hi)⟩
def sendF (s e : Int) : Int × Int :=
  if rightB s && sendsB e then (if tabV s e = -1 then (0, 25) else (tabV s e, 0)) else (0, 11)
def getF (s e : Int) : Int × Int × Bool :=
  if rightB s && getsB e then (if tabV s e = -2 then (s, 101, true) else if tabV s e = -3 then (4, 105, false) else (tabV s e, 0, false)) else (4, 102, true)
def mayB (s e : Int) : Bool := rightB s && decide (0 ≤ e) && decide (e < 9) && decide (0 ≤ tabV s e)

set_option maxHeartbeats 400000 in
theorem send_any (s e : Int) (w : World) (ht : TabOK w) :
    Calls Tryd.prog 21 #[.int .i64 s, .int .i64 e] w fun r w' => r = .returned (.tuple #[.int .i64 (sendF s e).1, .int .i64 (sendF s e).2]) ∧ w = w' := by
  cases hs : rightB s with
  | false =>
    have hf : sendF s e = (0, 11) := by simp [sendF, hs]
    rw [hf]; clear hf ht
    go_enter Tryd.func21, Tryd.ntmps21
    go_wp2_with (go_at_call 41; refine (right_any _ _).mono ?_; rintro r w' ⟨rfl, rfl⟩)
    go_ret2
    exact ⟨rfl, rfl⟩
  | true =>
    cases he : sendsB e with
    | false =>
      have hf : sendF s e = (0, 11) := by simp [sendF, hs, he]
      rw [hf]; clear hf ht
      go_enter Tryd.func21, Tryd.ntmps21
      go_wp2_with (first | (go_at_call 41; refine (right_any _ _).mono ?_; rintro r w' ⟨rfl, rfl⟩) | (go_at_call 39; refine (sends_any _ _).mono ?_; rintro r w' ⟨rfl, rfl⟩))
      go_ret2
      exact ⟨rfl, rfl⟩
    | true =>
      have b1 : 0 ≤ s ∧ s < 5 := by simpa [rightB] using hs
      have b2 : 0 ≤ e ∧ e ≤ 3 := by simpa [sendsB] using he
      obtain ⟨b1, b3⟩ := b1
      obtain ⟨b2, b4⟩ := b2
      have hcell := ht.2 (s.toNat * 9 + e.toNat) (by omega)
      have hf : sendF s e = (if tabV s e = -1 then (0, 25) else (tabV s e, 0)) := by simp [sendF, hs, he]
      change w.cell? _ = some (.int .i64 (tabV s e)) at hcell
      rw [hf]; clear hf ht
      generalize tabV s e = t at *
      by_cases htt : t = -1
      · subst htt
        go_enter Tryd.func21, Tryd.ntmps21
        go_wp2_with (first | (go_at_call 41; refine (right_any _ _).mono ?_; rintro r w' ⟨rfl, rfl⟩) | (go_at_call 39; refine (sends_any _ _).mono ?_; rintro r w' ⟨rfl, rfl⟩))
        go_ret2
        exact ⟨rfl, rfl⟩
      · rw [if_neg htt]
        go_enter Tryd.func21, Tryd.ntmps21
        go_wp2_with (first | (go_at_call 41; refine (right_any _ _).mono ?_; rintro r w' ⟨rfl, rfl⟩) | (go_at_call 39; refine (sends_any _ _).mono ?_; rintro r w' ⟨rfl, rfl⟩))
        go_ret2
        exact ⟨rfl, rfl⟩
set_option maxHeartbeats 400000 in
theorem may_any (s e : Int) (w : World) (ht : TabOK w) :
    Calls Tryd.prog 20 #[.int .i64 s, .int .i64 e] w fun r w' => r = .returned (.bool (mayB s e)) ∧ w = w' := by
  cases hs : rightB s with
  | false =>
    have hf : mayB s e = false := by simp [mayB, hs]
    rw [hf]; clear hf ht
    go_enter Tryd.func20, Tryd.ntmps20
    go_wp2_with (go_at_call 41; refine (right_any _ _).mono ?_; rintro r w' ⟨rfl, rfl⟩)
    go_ret
    exact ⟨rfl, rfl⟩
  | true =>
    have b1 : 0 ≤ s ∧ s < 5 := by simpa [rightB] using hs
    obtain ⟨b1, b3⟩ := b1
    by_cases h0 : 0 ≤ e
    · by_cases h9 : e < 9
      · have hcell := ht.2 (s.toNat * 9 + e.toNat) (by omega)
        have hf : mayB s e = decide (0 ≤ tabV s e) := by simp [mayB, hs, h0, h9]
        change w.cell? _ = some (.int .i64 (tabV s e)) at hcell
        rw [hf]; clear hf ht
        generalize tabV s e = t at *
        go_enter Tryd.func20, Tryd.ntmps20
        go_wp2_with (go_at_call 41; refine (right_any _ _).mono ?_; rintro r w' ⟨rfl, rfl⟩)
        go_ret
        exact ⟨rfl, rfl⟩
      · have hf : mayB s e = false := by simp [mayB, h9]
        rw [hf]; clear hf ht
        go_enter Tryd.func20, Tryd.ntmps20
        go_wp2_with (go_at_call 41; refine (right_any _ _).mono ?_; rintro r w' ⟨rfl, rfl⟩)
        go_ret
        exact ⟨rfl, rfl⟩
    · have hf : mayB s e = false := by simp [mayB, h0]
      rw [hf]; clear hf ht
      go_enter Tryd.func20, Tryd.ntmps20
      go_wp2_with (go_at_call 41; refine (right_any _ _).mono ?_; rintro r w' ⟨rfl, rfl⟩)
      go_ret
      exact ⟨rfl, rfl⟩
theorem getF_cases (s e : Int) (P : Int × Int × Bool → Prop) (h1 : rightB s = false → P (4, 102, true)) (h2 : rightB s = true → getsB e = false → P (4, 102, true))
    (h3 : rightB s = true → getsB e = true → tabV s e = -2 → P (s, 101, true)) (h4 : rightB s = true → getsB e = true → tabV s e = -3 → P (4, 105, false))
    (h5 : rightB s = true → getsB e = true → ¬ tabV s e = -2 → ¬ tabV s e = -3 → P (tabV s e, 0, false)) : P (getF s e) := by
  unfold getF
  cases hr : rightB s with
  | false => simpa using h1 hr
  | true =>
    cases hg : getsB e with
    | false => simpa using h2 hr hg
    | true =>
      by_cases e2 : tabV s e = -2
      · simpa [e2] using h3 hr hg e2
      · by_cases e3 : tabV s e = -3
        · simpa [e3] using h4 hr hg e3
        · simpa [e2, e3] using h5 hr hg e2 e3
set_option maxHeartbeats 1000000 in
theorem get_any (s e : Int) (w : World) (ht : TabOK w) :
    Calls Tryd.prog 22 #[.int .i64 s, .int .i64 e] w fun r w' => r = .returned (.tuple #[.int .i64 (getF s e).1, .agg #[.int .i64 (getF s e).2.1, .bool (getF s e).2.2]]) ∧ w' = w.alloc (.cells #[.int .i64 (getF s e).2.1, .bool (getF s e).2.2] 33) := by
  apply getF_cases s e (fun q => Calls Tryd.prog 22 #[.int .i64 s, .int .i64 e] w fun r w' => r = .returned (.tuple #[.int .i64 q.1, .agg #[.int .i64 q.2.1, .bool q.2.2]]) ∧ w' = w.alloc (.cells #[.int .i64 q.2.1, .bool q.2.2] 33))
  · intro hs
    clear ht
    go_enter Tryd.func22, Tryd.ntmps22
    go_wp2_with (go_at_call 41; refine (right_any _ _).mono ?_; rintro r w' ⟨rfl, rfl⟩)
    exact bodyPost_ret (v := .tuple #[.int .i64 4, .agg #[.int .i64 102, .bool true]]) (by simp [results, Tryd.results22, go_sem]) rfl ⟨rfl, by simp⟩
  · intro hs he
    clear ht
    go_enter Tryd.func22, Tryd.ntmps22
    go_wp2_with (first | (go_at_call 41; refine (right_any _ _).mono ?_; rintro r w' ⟨rfl, rfl⟩) | (go_at_call 40; refine (gets_any _ _).mono ?_; rintro r w' ⟨rfl, rfl⟩))
    exact bodyPost_ret (v := .tuple #[.int .i64 4, .agg #[.int .i64 102, .bool true]]) (by simp [results, Tryd.results22, go_sem]) rfl ⟨rfl, by simp⟩
  · intro hs he h2
    have b1 : 0 ≤ s ∧ s < 5 := by simpa [rightB] using hs
    have b2 : 3 < e ∧ e < 9 := by simpa [getsB] using he
    obtain ⟨b1, b3⟩ := b1
    obtain ⟨b2, b4⟩ := b2
    have hcell := ht.2 (s.toNat * 9 + e.toNat) (by omega)
    change w.cell? _ = some (.int .i64 (tabV s e)) at hcell
    have hz := ht.1
    clear ht
    rw [h2] at hcell
    clear h2
    go_enter Tryd.func22, Tryd.ntmps22
    go_wp2_with (first | (go_at_call 41; refine (right_any _ _).mono ?_; rintro r w' ⟨rfl, rfl⟩) | (go_at_call 40; refine (gets_any _ _).mono ?_; rintro r w' ⟨rfl, rfl⟩))
    exact bodyPost_ret (v := .tuple #[.int .i64 s, .agg #[.int .i64 101, .bool true]]) (by simp [results, Tryd.results22, go_sem]) rfl ⟨rfl, by simp⟩
  · intro hs he h3
    have b1 : 0 ≤ s ∧ s < 5 := by simpa [rightB] using hs
    have b2 : 3 < e ∧ e < 9 := by simpa [getsB] using he
    obtain ⟨b1, b3⟩ := b1
    obtain ⟨b2, b4⟩ := b2
    have hcell := ht.2 (s.toNat * 9 + e.toNat) (by omega)
    change w.cell? _ = some (.int .i64 (tabV s e)) at hcell
    have hz := ht.1
    clear ht
    rw [h3] at hcell
    clear h3
    go_enter Tryd.func22, Tryd.ntmps22
    go_wp2_with (first | (go_at_call 41; refine (right_any _ _).mono ?_; rintro r w' ⟨rfl, rfl⟩) | (go_at_call 40; refine (gets_any _ _).mono ?_; rintro r w' ⟨rfl, rfl⟩))
    exact bodyPost_ret (v := .tuple #[.int .i64 4, .agg #[.int .i64 105, .bool false]]) (by simp [results, Tryd.results22, go_sem]) rfl ⟨rfl, by simp⟩
  · intro hs he h2 h3
    have b1 : 0 ≤ s ∧ s < 5 := by simpa [rightB] using hs
    have b2 : 3 < e ∧ e < 9 := by simpa [getsB] using he
    obtain ⟨b1, b3⟩ := b1
    obtain ⟨b2, b4⟩ := b2
    have hcell := ht.2 (s.toNat * 9 + e.toNat) (by omega)
    change w.cell? _ = some (.int .i64 (tabV s e)) at hcell
    have hz := ht.1
    clear ht
    generalize tabV s e = t at *
    go_enter Tryd.func22, Tryd.ntmps22
    go_wp2_with (first | (go_at_call 41; refine (right_any _ _).mono ?_; rintro r w' ⟨rfl, rfl⟩) | (go_at_call 40; refine (gets_any _ _).mono ?_; rintro r w' ⟨rfl, rfl⟩))
    exact bodyPost_ret (v := .tuple #[.int .i64 t, .agg #[.int .i64 0, .bool false]]) (by simp [results, Tryd.results22, go_sem]) rfl ⟨rfl, by simp⟩

set_option maxHeartbeats 400000 in
theorem ok_any (c : Int) (k : Bool) (w : World) :
    Calls Tryd.prog 15 #[.agg #[.int .i64 c, .bool k]] w fun r w' => r = .returned (.bool (c == 0 && !k)) ∧ w' = w.alloc (.cells #[.int .i64 c, .bool k] 33) := by
  go_enter Tryd.func15, Tryd.ntmps15
  go_wp2
  all_goals go_ret
  all_goals exact ⟨by simp_all, by simp_all⟩
end Go.Proofs.YtpihldeikdiniaaDoor
