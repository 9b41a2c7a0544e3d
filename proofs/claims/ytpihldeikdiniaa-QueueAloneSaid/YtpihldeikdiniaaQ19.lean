/- Package squintref18: append of a list to a row of the call's own. -/
import Derived.Test.YtpihldeikdiniaaQ18
import Derived.Maps.AppendAt
namespace Go.Proofs.Ytpihldeikdiniaa
open Go.RowKit
set_option linter.unusedVariables false
set_option linter.unusedSimpArgs false
theorem Try.infoRef : (Try.prog.info? 62).map (fun i => (i.zero, i.size, i.bytes)) = some (some (.agg #[.int .i64 0, .string ⟨#[]⟩, .string ⟨#[]⟩]), 3, 40) := by kernel_rfl
/-- An item's cells. -/
def refCells (x : QI) : List Value := [.int .i64 x.num, .string ⟨x.h.toArray⟩, .string ⟨x.b.toArray⟩]
def refRow : List QI → List Value
  | [] => []
  | x :: l => refCells x ++ refRow l
theorem refRow_len (l : List QI) : (refRow l).length = l.length * 3 := by
  induction l with
  | nil => rfl
  | cons x l ih => simp only [refRow, List.length_append, ih, List.length_cons]; simp [refCells]; omega
theorem refRow_append (a b : List QI) : refRow (a ++ b) = refRow a ++ refRow b := by
  induction a with
  | nil => rfl
  | cons x a ih => simp [refRow, ih]
theorem refRow_get {l : List QI} {i : Nat} {x : QI} (h : l[i]? = some x) : ∀ j u, (refCells x)[j]? = some u → (refRow l)[i * 3 + j]? = some u := by
  induction l generalizing i with
  | nil => simp at h
  | cons y l ih =>
    intro j u hj
    have hj3 : j < 3 := by have := (List.getElem?_eq_some_iff.1 hj).1; simpa [refCells] using this
    cases i with
    | zero =>
      obtain rfl : y = x := by simpa using h
      simp only [refRow]
      rw [List.getElem?_append_left (by simp [refCells]; omega)]
      simpa using hj
    | succ i =>
      simp only [refRow]
      rw [List.getElem?_append_right (by simp [refCells]; omega)]
      have := ih (by simpa using h) j u hj
      rwa [show (i + 1) * 3 + j - (refCells y).length = i * 3 + j from by simp [refCells]; omega]
theorem refRow_one {l : List QI} : ∀ u ∈ refRow l, u.oneCell' = true := by
  induction l with
  | nil => intro u hu; cases hu
  | cons x l ih =>
    intro u hu
    rcases List.mem_append.1 hu with hu | hu
    · simp [refCells] at hu
      rcases hu with rfl | rfl | rfl <;> rfl
    · exact ih u hu
/-- Every cell of a list's row comes of an item. -/
theorem refRow_at {l : List QI} {j : Nat} {u : Value} (h : (refRow l)[j]? = some u) : ∃ x, l[j / 3]? = some x ∧ (refCells x)[j % 3]? = some u := by
  induction l generalizing j with
  | nil => simp [refRow] at h
  | cons y l ih =>
    simp only [refRow] at h
    by_cases h3 : j < 3
    · rw [List.getElem?_append_left (by simp [refCells]; omega)] at h
      exact ⟨y, by rw [Nat.div_eq_of_lt h3]; rfl, by rw [Nat.mod_eq_of_lt h3]; exact h⟩
    · rw [List.getElem?_append_right (by simp [refCells]; omega), show j - (refCells y).length = j - 3 from by simp [refCells]] at h
      obtain ⟨x, h1, h2⟩ := ih h
      refine ⟨x, ?_, ?_⟩
      · rw [show j / 3 = (j - 3) / 3 + 1 from by omega]; simpa using h1
      · rw [show j % 3 = (j - 3) % 3 from by omega]; exact h2
theorem RefIn.of_own {w : World} {base : Nat} {v : Value} {l : List QI} (h : w.ownsRow base 62 3 v l.length (refRow l)) (hl : l.length ≤ 8192) : RefIn (fun k => base ≤ k ∧ k < w.heap.size) w v l := by
  have hown := h
  rcases h.2 with ⟨rfl, hz⟩ | ⟨g, cap, cur, rfl, hb, hg, hn, hcm, hs, ht⟩
  · exact ⟨none, 0, by rw [hz], by omega, Nat.zero_le _, hl, fun h0 => by omega⟩
  · refine ⟨some ⟨g, 0, none⟩, cap, rfl, hn, hcm, hl, fun h0 => ⟨g, 0, rfl, ⟨hb, (Array.getElem?_eq_some_iff.1 hg).1⟩, fun i x hi => ?_⟩⟩
    have hc : ∀ j u, (refCells x)[j]? = some u → w.cell? ⟨g, i * 3 + j, none⟩ = some u := fun j u hj => by
      have h1 := refRow_get hi j u hj
      have h2 := (List.getElem?_eq_some_iff.1 h1).1
      rw [refRow_len] at h2
      rw [hown.cellAt _ h2]; exact h1
    simp only [Nat.zero_add]
    exact ⟨hc 0 _ rfl, hc 1 _ rfl, hc 2 _ rfl⟩
theorem RefIn.cells {ok : Nat → Prop} {w : World} {b o c : Nat} {l : List QI} (h : RefIn ok w (.slice (some ⟨b, o, none⟩) l.length c) l) : ∀ j u, (refRow l)[j]? = some u → w.cell? ((⟨b, o, none⟩ : Addr).add j) = some u := by
  obtain ⟨A, cap, hv, _, _, _, hc⟩ := h
  simp only [Value.slice.injEq] at hv
  obtain ⟨rfl, _, rfl⟩ := hv
  intro j u hj
  have hj2 := (List.getElem?_eq_some_iff.1 hj).1
  rw [refRow_len] at hj2
  obtain ⟨b', o', he, _, hcell⟩ := hc (by omega)
  simp only [Option.some.injEq, Addr.mk.injEq, and_true] at he
  obtain ⟨rfl, rfl⟩ := he
  obtain ⟨x, h1, h2⟩ := refRow_at hj
  obtain ⟨g0, g1, g2⟩ := hcell _ x h1
  rw [Addr.add_lit]
  have hm : j % 3 < 3 := Nat.mod_lt _ (by decide)
  have e : o + j = o + j / 3 * 3 + j % 3 := by omega
  rw [e]
  generalize hr : j % 3 = r at *
  rcases r with _ | _ | _ | r
  · simp [refCells] at h2; subst h2; exact g0
  · simp [refCells] at h2; subst h2; exact g1
  · simp [refCells] at h2; subst h2; exact g2
  · omega
end Go.Proofs.Ytpihldeikdiniaa
