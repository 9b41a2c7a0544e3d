/- Package slices: Delete of one item of a line. -/
import Derived.Test.YtpihldeikdiniaaQ9
import Derived.Deep.RegionLaw
import Derived.Lib.SliceRun
namespace Go.Proofs.Ytpihldeikdiniaa
open Go.RowKit
set_option linter.unusedVariables false
set_option linter.unusedSimpArgs false
theorem Items.erase {ok : Nat → Prop} {w : World} {l : List QI} {r : List (List Value)} (h : Items ok w l r) (i : Nat) : Items ok w (l.eraseIdx i) (r.eraseIdx i) := by
  induction h generalizing i with
  | nil => exact .nil
  | cons h1 h2 ih =>
    cases i with
    | zero => exact h2
    | succ i => exact .cons h1 (ih i)
theorem Items.eraseFlat {ok : Nat → Prop} {w : World} {l : List QI} {r : List (List Value)} (h : Items ok w l r) (i : Nat) (hi : i < l.length) : (r.eraseIdx i).flatten = r.flatten.take (i * 3) ++ r.flatten.drop ((i + 1) * 3) := by
  induction h generalizing i with
  | nil => simp at hi
  | @cons x c l r h1 h2 ih =>
    have hc := h1.len
    cases i with
    | zero => simp only [List.eraseIdx_zero, List.tail_cons, List.flatten_cons, Nat.zero_mul, List.take_zero, List.nil_append, Nat.zero_add, Nat.one_mul]
              rw [List.drop_append, List.drop_of_length_le (by omega), List.nil_append, show 3 - c.length = 0 by omega, List.drop_zero]
    | succ i =>
      simp only [List.length_cons] at hi
      simp only [List.eraseIdx_cons_succ, List.flatten_cons, ih i (by omega)]
      rw [List.take_append, List.drop_append, List.take_of_length_le (l := c) (by omega), List.drop_of_length_le (l := c) (by omega), List.nil_append, hc, List.append_assoc, show (i + 1) * 3 - 3 = i * 3 from by omega, show (i + 1 + 1) * 3 - 3 = (i + 1) * 3 from by omega]
def layL (xs : List Value) : Nat → List Value → List Value
  | _, [] => xs
  | o, v :: r => layL (xs.set o v) (o + 1) r
theorem layL_eq : ∀ (vs xs : List Value) (o : Nat), o + vs.length ≤ xs.length → layL xs o vs = xs.take o ++ vs ++ xs.drop (o + vs.length)
  | [], xs, o, h => by simp [layL]
  | v :: r, xs, o, h => by
    simp only [List.length_cons] at h
    have hl : (xs.set o v).length = xs.length := by simp
    rw [layL, layL_eq r (xs.set o v) (o + 1) (by omega)]
    apply List.ext_getElem?
    intro j
    simp only [List.getElem?_append, List.length_append, List.length_take, List.getElem?_take, List.getElem?_drop, List.getElem?_set, List.length_cons, hl, List.getElem?_cons]
    by_cases c1 : j < o
    · simp [c1, show j < min (o + 1) xs.length + r.length by omega, show j < min (o + 1) xs.length by omega, show j < min o xs.length + (r.length + 1) by omega, show j < min o xs.length by omega, show j < o + 1 by omega, show ¬ o = j by omega]
    by_cases c2 : j = o
    · subst c2
      simp [show j < min (j + 1) xs.length + r.length by omega, show j < min (j + 1) xs.length by omega, show j < min j xs.length + (r.length + 1) by omega, show ¬ j < min j xs.length by omega, show j < xs.length by omega, show j - min j xs.length = 0 by omega]
    by_cases c3 : j < o + 1 + r.length
    · simp [show j < min (o + 1) xs.length + r.length by omega, show ¬ j < min (o + 1) xs.length by omega, show j < min o xs.length + (r.length + 1) by omega, show ¬ j < min o xs.length by omega, show ¬ j - min o xs.length = 0 by omega, show j - min (o + 1) xs.length = j - min o xs.length - 1 by omega]
    · simp [show ¬ j < min (o + 1) xs.length + r.length by omega, show ¬ j < min o xs.length + (r.length + 1) by omega]
      rw [if_neg (by omega), show o + 1 + r.length + (j - (min (o + 1) xs.length + r.length)) = o + (r.length + 1) + (j - (min o xs.length + (r.length + 1))) by omega]
theorem own_setCells {base : Nat} {e : TypeId} {size g n cap : Nat} : ∀ (vs : List Value) (o : Nat) (w : World) (xs : List Value), w.ownsRow base e size (.slice (some ⟨g, 0, none⟩) n cap) n xs → (w.setCells g o vs).ownsRow base e size (.slice (some ⟨g, 0, none⟩) n cap) n (layL xs o vs)
  | [], _, _, _, h => h
  | v :: r, o, w, xs, h => own_setCells r (o + 1) _ _ (World.ownsRow.stored h o v).1
theorem own_shrink {w : World} {base : Nat} {e : TypeId} {size g n n' cap : Nat} {xs : List Value} (h : w.ownsRow base e size (.slice (some ⟨g, 0, none⟩) n cap) n xs) (hn : n' ≤ n) : w.ownsRow base e size (.slice (some ⟨g, 0, none⟩) n' cap) n' (xs.take (n' * size)) := by
  have hm : n' * size ≤ n * size := Nat.mul_le_mul_right _ hn
  refine ⟨by rw [List.length_take, h.1]; omega, ?_⟩
  rcases h.2 with ⟨h', _⟩ | ⟨g', cap', cur, h', hb, hg, hnc, hcm, hcs, htake⟩
  · simp at h'
  · simp only [Value.slice.injEq, Option.some.injEq, Addr.mk.injEq, and_true, true_and] at h'
    obtain ⟨rfl, rfl⟩ := h'
    exact .inr ⟨g, cap, cur, rfl, hb, hg, by omega, hcm, hcs, by rw [← htake, List.take_take, Nat.min_eq_left hm]⟩
theorem frm_setCells {S : Nat → Nat → Prop} {w0 : World} {g : Nat} (hS : ∀ j, S g j) : ∀ (vs : List Value) (o : Nat) {w : World}, Frm S w0 w → Frm S w0 (w.setCells g o vs)
  | [], _, _, h => h
  | v :: r, o, _, h => frm_setCells hS r (o + 1) (h.set_old (p := ⟨g, o, none⟩) (hS o) v)
/-- The built-in clear at one item. -/
theorem clear_item (w : World) (ty : TypeId) (g o c : Nat) (h0 : (w.cell? ⟨g, o, none⟩).isSome = true) (h1 : (w.cell? ⟨g, o + 1, none⟩).isSome = true) (h2 : (w.cell? ⟨g, o + 2, none⟩).isSome = true) (hf : ∀ j, w.frozen? ⟨g, j, none⟩ = false) :
    (Builtin.clear_ #[144] ty #[.slice (some ⟨g, o, none⟩) 1 c]).run Try.prog w = .ok (.tuple #[]) (w.setCells g o [.int .i64 0, .slice none 0 0, .slice none 0 0]) := by
  have hzc : (Builtin.zeroCells (Value.agg #[.int .i64 0, .slice none 0 0, .slice none 0 0]).cells 1).toList = [.int .i64 0, .slice none 0 0, .slice none 0 0] := by simp [Builtin.zeroCells, Value.cells]; try rfl
  have hst := run_storeCells_cells (P := Try.prog) g o [.int .i64 0, .slice none 0 0, .slice none 0 0] 0 w (fun j hj => by
    rcases j with _ | _ | _ | j
    · exact h0
    · exact h1
    · exact h2
    · exact absurd hj (by simp)) (fun j hj => hf _) (by intro v hv; simp at hv; rcases hv with rfl | rfl <;> rfl)
  simp only [Nat.add_zero] at hst
  simp [Builtin.clear_, run_underlying Try.underlying144, Try.zeroValue57, hzc, hst]
end Go.Proofs.Ytpihldeikdiniaa
