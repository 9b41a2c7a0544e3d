/- A stream's events, one by one: what an event does hangs on the state alone; what comes in as a list of events. -/
import Derived.Test.YtpihldeikdiniaaDoorSt6
namespace Go.Proofs.YtpihldeikdiniaaDoor
open Go.RowKit
set_option linter.unusedVariables false
set_option linter.unusedSimpArgs false
theorem enumI {n : Nat} {P : Int → Prop} (h : ∀ i : Fin n, P (i.val : Int)) (x : Int) (h0 : 0 ≤ x) (h1 : x < n) : P x := by
  have := h ⟨x.toNat, by omega⟩
  simpa [Int.toNat_of_nonneg h0] using this
/-- A slice of numbers that came in. -/
def IntsIn (w : World) (A : Option Addr) (n : Nat) (zs : List Int) : Prop :=
  zs.length = n ∧ n ≤ 9223372036854775807 ∧ (0 < n → ∃ b o, A = some ⟨b, o, none⟩ ∧ ∀ j, j < n → w.cell? ⟨b, o + j, none⟩ = some (.int .i64 (zs[j]?.getD 0)))
def errF (s e : Int) : Int := (doF s [] e).1
def fltF (s e : Int) : Int × Bool := (doF s [] e).2.1
def nxtF (s e : Int) : Int := (doF s [] e).2.2.1
theorem mayB_of {s e : Int} (hs : 0 ≤ s) (hs4 : s < 5) : mayB s e = ((sendsB e && decide ((sendF s e).2 = 0)) || (getsB e && decide ((getF s e).2 = (0, false)))) := by
  by_cases he : 0 ≤ e ∧ e < 9
  · exact enumI (n := 5) (P := fun s => ∀ e, 0 ≤ e → e < 9 → mayB s e = ((sendsB e && decide ((sendF s e).2 = 0)) || (getsB e && decide ((getF s e).2 = (0, false))))) (fun i e h0 h8 => enumI (n := 9) (P := fun e => mayB (i.val : Int) e = ((sendsB e && decide ((sendF (i.val : Int) e).2 = 0)) || (getsB e && decide ((getF (i.val : Int) e).2 = (0, false)))))
      ((by decide +kernel : ∀ i : Fin 5, ∀ j : Fin 9, mayB (i.val : Int) (j.val : Int) = ((sendsB (j.val : Int) && decide ((sendF (i.val : Int) (j.val : Int)).2 = 0)) || (getsB (j.val : Int) && decide ((getF (i.val : Int) (j.val : Int)).2 = (0, false))))) i) e h0 h8) s hs hs4 e he.1 he.2
  · have h1 : mayB s e = false := by simp [mayB]; omega
    have h2 : sendsB e = false := by simp [sendsB]; omega
    have h3 : getsB e = false := by simp [getsB]; omega
    simp [h1, h2, h3]
/-- What Do does hangs on the state and the event alone; a count rises just where the event may be. -/
theorem doF_eq {s e : Int} (hs : 0 ≤ s) (hs4 : s < 5) (c : List Int) : doF s c e = (errF s e, fltF s e, nxtF s e, if mayB s e = true then c.set e.toNat (wrap64 (c[e.toNat]?.getD 0 + 1)) else c) := by
  rw [mayB_of hs hs4]
  unfold errF fltF nxtF doF
  cases h1 : sendsB e with
  | true =>
    have h2 : getsB e = false := by
      have : 0 ≤ e ∧ e ≤ 3 := by simpa [sendsB] using h1
      simp [getsB]; omega
    by_cases h3 : (sendF s e).2 = 0 <;> simp [h2, h3]
  | false =>
    cases h2 : getsB e with
    | true => by_cases h3 : (getF s e).2 = (0, false) <;> simp [h3]
    | false => simp
/-- What an event does, as far as the statements ask. -/
structure EvOK (s e : Int) : Prop where
  st : 0 ≤ nxtF s e ∧ nxtF s e < 5
  good : mayB s e = true → errF s e = 0 ∧ fltF s e = (0, false)
  bad : mayB s e = false → errF s e ≠ 0 ∧ fltF s e = (0, false) ∨ errF s e = 0 ∧ ((fltF s e).1 == 0 && !(fltF s e).2) = false
  inr : mayB s e = true → 0 ≤ e ∧ e < 9
  closed : s = 4 → nxtF s e = 4
  ours : s = 3 ∨ s = 4 → (nxtF s e = 3 ∨ nxtF s e = 4) ∧ (mayB s e = true → ¬ (0 ≤ e ∧ e ≤ 2))
  theirs : s = 2 ∨ s = 4 → (nxtF s e = 2 ∨ nxtF s e = 4) ∧ (mayB s e = true → ¬ (4 ≤ e ∧ e ≤ 6))
  end2 : mayB s e = true → e = 2 → nxtF s e = 3 ∨ nxtF s e = 4
  end6 : mayB s e = true → e = 6 → nxtF s e = 2 ∨ nxtF s e = 4
  end3 : mayB s e = true → e = 3 → nxtF s e = 4 ∧ s ≠ 4
  shut : (fltF s e).1 = 105 → nxtF s e = 4
theorem evOK (s e : Int) (hs : 0 ≤ s) (hs4 : s < 5) : EvOK s e := by
  by_cases he : 0 ≤ e ∧ e < 9
  · refine enumI (n := 5) (P := fun s => ∀ e, 0 ≤ e → e < 9 → EvOK s e) (fun i e h0 h8 => enumI (n := 9) (P := fun e => EvOK (i.val : Int) e) (fun j => ?_) e h0 h8) s hs hs4 e he.1 he.2
    exact { st := (by decide +kernel : ∀ i : Fin 5, ∀ j : Fin 9, 0 ≤ nxtF (i.val : Int) (j.val : Int) ∧ nxtF (i.val : Int) (j.val : Int) < 5) i j
            good := (by decide +kernel : ∀ i : Fin 5, ∀ j : Fin 9, mayB (i.val : Int) (j.val : Int) = true → errF (i.val : Int) (j.val : Int) = 0 ∧ fltF (i.val : Int) (j.val : Int) = (0, false)) i j
            bad := (by decide +kernel : ∀ i : Fin 5, ∀ j : Fin 9, mayB (i.val : Int) (j.val : Int) = false → errF (i.val : Int) (j.val : Int) ≠ 0 ∧ fltF (i.val : Int) (j.val : Int) = (0, false) ∨ errF (i.val : Int) (j.val : Int) = 0 ∧ ((fltF (i.val : Int) (j.val : Int)).1 == 0 && !(fltF (i.val : Int) (j.val : Int)).2) = false) i j
            inr := fun _ => ⟨by omega, by omega⟩
            closed := (by decide +kernel : ∀ i : Fin 5, ∀ j : Fin 9, (i.val : Int) = 4 → nxtF (i.val : Int) (j.val : Int) = 4) i j
            ours := (by decide +kernel : ∀ i : Fin 5, ∀ j : Fin 9, ((i.val : Int) = 3 ∨ (i.val : Int) = 4) → (nxtF (i.val : Int) (j.val : Int) = 3 ∨ nxtF (i.val : Int) (j.val : Int) = 4) ∧ (mayB (i.val : Int) (j.val : Int) = true → ¬ (0 ≤ (j.val : Int) ∧ (j.val : Int) ≤ 2))) i j
            theirs := (by decide +kernel : ∀ i : Fin 5, ∀ j : Fin 9, ((i.val : Int) = 2 ∨ (i.val : Int) = 4) → (nxtF (i.val : Int) (j.val : Int) = 2 ∨ nxtF (i.val : Int) (j.val : Int) = 4) ∧ (mayB (i.val : Int) (j.val : Int) = true → ¬ (4 ≤ (j.val : Int) ∧ (j.val : Int) ≤ 6))) i j
            end2 := (by decide +kernel : ∀ i : Fin 5, ∀ j : Fin 9, mayB (i.val : Int) (j.val : Int) = true → (j.val : Int) = 2 → nxtF (i.val : Int) (j.val : Int) = 3 ∨ nxtF (i.val : Int) (j.val : Int) = 4) i j
            end6 := (by decide +kernel : ∀ i : Fin 5, ∀ j : Fin 9, mayB (i.val : Int) (j.val : Int) = true → (j.val : Int) = 6 → nxtF (i.val : Int) (j.val : Int) = 2 ∨ nxtF (i.val : Int) (j.val : Int) = 4) i j
            end3 := (by decide +kernel : ∀ i : Fin 5, ∀ j : Fin 9, mayB (i.val : Int) (j.val : Int) = true → (j.val : Int) = 3 → nxtF (i.val : Int) (j.val : Int) = 4 ∧ (i.val : Int) ≠ 4) i j
            shut := (by decide +kernel : ∀ i : Fin 5, ∀ j : Fin 9, (fltF (i.val : Int) (j.val : Int)).1 = 105 → nxtF (i.val : Int) (j.val : Int) = 4) i j }
  · have h1 : mayB s e = false := by simp [mayB]; omega
    have h2 : sendsB e = false := by simp [sendsB]; omega
    have h3 : getsB e = false := by simp [getsB]; omega
    have e1 : errF s e = 11 := by simp [errF, doF, h2, h3]
    have e2 : fltF s e = (0, false) := by simp [fltF, doF, h2, h3]
    have e3 : nxtF s e = s := by simp [nxtF, doF, h2, h3]
    exact { st := by rw [e3]; exact ⟨hs, hs4⟩, good := by simp [h1], bad := by simp [e1, e2], inr := by simp [h1], closed := by rw [e3]; exact id, ours := by rw [e3, h1]; simp, theirs := by rw [e3, h1]; simp, end2 := by simp [h1], end6 := by simp [h1], end3 := by simp [h1], shut := by simp [e2] }
end Go.Proofs.YtpihldeikdiniaaDoor
