/- Package squintref18: Drop. -/
import Derived.Test.YtpihldeikdiniaaQ22
namespace Go.Proofs.Ytpihldeikdiniaa
open Go.RowKit
set_option linter.unusedVariables false
set_option linter.unusedSimpArgs false
/-- The list without the first item of a number. -/
def dropN (n : Int) : List QI → List QI
  | [] => []
  | x :: l => if x.num = n then l else x :: dropN n l
def hasN (n : Int) : List QI → Bool
  | [] => false
  | x :: l => decide (x.num = n) || hasN n l
theorem dropN_no {n : Int} {l : List QI} (h : hasN n l = false) : dropN n l = l := by
  induction l with
  | nil => rfl
  | cons x l ih =>
    simp only [hasN, Bool.or_eq_false_iff, decide_eq_false_iff_not] at h
    simp [dropN, h.1, ih h.2]
theorem hasN_snoc (n : Int) (l : List QI) (x : QI) : hasN n (l ++ [x]) = (hasN n l || decide (x.num = n)) := by
  induction l with
  | nil => simp [hasN]
  | cons y l ih => simp [hasN, ih, Bool.or_assoc]
theorem dropN_snoc (n : Int) (l : List QI) (x : QI) : dropN n (l ++ [x]) = if hasN n l = false ∧ x.num = n then dropN n l else dropN n l ++ [x] := by
  induction l with
  | nil => by_cases h : x.num = n <;> simp [dropN, hasN, h]
  | cons y l ih =>
    by_cases h : y.num = n
    · simp [dropN, hasN, h]
    · simp only [List.cons_append, dropN, hasN, h, if_false, decide_false, Bool.false_or, ih]
      split <;> rfl
theorem dropN_len (n : Int) (l : List QI) : (dropN n l).length = if hasN n l then l.length - 1 else l.length := by
  induction l with
  | nil => rfl
  | cons x l ih =>
    by_cases h : x.num = n
    · simp [dropN, hasN, h]
    · simp only [dropN, h, if_false, hasN, decide_false, Bool.false_or, List.length_cons, ih]
      by_cases hh : hasN n l = true
      · have : 0 < l.length := by cases l with
          | nil => cases hh
          | cons _ _ => simp
        simp [hh]; omega
      · simp [hh]
end Go.Proofs.Ytpihldeikdiniaa
