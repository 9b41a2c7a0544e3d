/- What came in: bytes; an item of the queue. -/
import Derived.Test.YtpihldeikdiniaaRd
import Derived.Test.YtpihldeikdiniaaQ1
namespace Go.Proofs.Ytpihldeikdiniaa
open Go.ChangeShapes Go.WideShapes Go.Deep
set_option linter.unusedVariables false
set_option linter.unusedSimpArgs false
theorem len1 {α : Type} {l : List α} (h : l.length = 1) : ∃ a, l = [a] := by
  rcases l with _ | ⟨a, _ | ⟨b, l⟩⟩ <;> simp_all
theorem len2 {α : Type} {l : List α} (h : l.length = 2) : ∃ a b, l = [a, b] := by
  rcases l with _ | ⟨a, _ | ⟨b, _ | ⟨c, l⟩⟩⟩ <;> simp_all
theorem len3 {α : Type} {l : List α} (h : l.length = 3) : ∃ a b c, l = [a, b, c] := by
  rcases l with _ | ⟨a, _ | ⟨b, _ | ⟨c, _ | ⟨d, l⟩⟩⟩⟩ <;> simp_all
theorem len4 {α : Type} {l : List α} (h : l.length = 4) : ∃ a b c d, l = [a, b, c, d] := by
  rcases l with _ | ⟨a, _ | ⟨b, _ | ⟨c, _ | ⟨d, _ | ⟨e, l⟩⟩⟩⟩⟩ <;> simp_all
theorem len6 {α : Type} {l : List α} (h : l.length = 6) : ∃ a b c d e f, l = [a, b, c, d, e, f] := by
  rcases l with _ | ⟨a, _ | ⟨b, _ | ⟨c, _ | ⟨d, _ | ⟨e, _ | ⟨f, _ | ⟨g, l⟩⟩⟩⟩⟩⟩⟩ <;> simp_all
theorem reach_le {n : Nat} (h : n * 1 ≤ reachBytes) : n ≤ 140737488351232 := by unfold reachBytes at h; omega
theorem Rd.bytes {H : Type} {enc : TypeId × Value → H} {w : World} {cs : List Value} (h : Rd enc Try.prog w 55 cs) : ∃ v l, cs = [v] ∧ BytesIn (fun k => k < w.heap.size) w v l := by
  have hb1 : Try.prog.bytesOf 5 = 1 := by kernel_rfl
  have hc1 : Try.prog.cellsOf 5 = 1 := by kernel_rfl
  rcases h.slice Try.underlying55 with hcs | ⟨a, len, cap, hcs, hl, hm, hr, hi⟩
  · exact ⟨_, [], hcs, none, 0, rfl, Nat.le_refl _, Nat.zero_le _, by decide, fun h0 => absurd h0 (by simp)⟩
  · rw [hb1] at hr
    have hr' := reach_le hr
    rw [hc1] at hi
    have hone : ∀ i, i < cap → ∃ x : UInt8, w.cell? (a.add i) = some (.int .u8 x.toNat) := fun i hi' => by
      obtain ⟨cs', h1, h2⟩ := hi i hi'
      rw [Nat.mul_one] at h1
      obtain ⟨z, rfl, hz⟩ := h2.int Try.underlying5
      have hc := cell_of_cells?_one h1
      have hz2 : 0 ≤ z ∧ z ≤ 255 := bounds_u8 hz
      refine ⟨UInt8.ofNat z.toNat, ?_⟩
      rw [hc]
      have : ((UInt8.ofNat z.toNat).toNat : Int) = z := by
        rw [UInt8.toNat_ofNat']
        omega
      rw [this]
    obtain ⟨f, hf⟩ := choose_lt hone
    refine ⟨_, (List.range len).map f, hcs, some a, cap, by simp, by simpa using hl, hm, by simp; omega, fun h0 => ?_⟩
    have h0' : 0 < len := by simpa using h0
    obtain ⟨b, o, s⟩ := a
    have hs : s = none := by simpa [Addr.add] using World.cell?_spot (hf 0 (by omega))
    subst hs
    refine ⟨b, o, rfl, ?_, fun j x hj => ?_⟩
    · have := World.block_lt_of_cell? w _ (hf 0 (by omega))
      simpa [Addr.add] using this
    · rw [List.getElem?_map] at hj
      have hj2 : j < len := by
        rcases Nat.lt_or_ge j len with h | h
        · exact h
        · rw [List.getElem?_eq_none (by simpa using h)] at hj; cases hj
      rw [List.getElem?_range hj2] at hj
      obtain rfl : f j = x := by simpa using hj
      have := hf j (by omega)
      rwa [Addr.add_lit] at this
/-- An item's three cells. -/
theorem Rd.item {H : Type} {enc : TypeId × Value → H} {w : World} {cs : List Value} (h : Rd enc Try.prog w 57 cs) : ∃ (x : QI) (hv bv : Value), cs = [.int .i64 x.num, hv, bv] ∧ BytesIn (fun k => k < w.heap.size) w hv x.h ∧ BytesIn (fun k => k < w.heap.size) w bv x.b ∧ -9223372036854775808 ≤ x.num ∧ x.num ≤ 9223372036854775807 := by
  obtain ⟨hl, hf⟩ := h.struct Try.underlying57
  have hc3 : Try.prog.cellsOf 57 = 3 := by kernel_rfl
  have hci : Try.prog.cellsOf 3 = 1 := by kernel_rfl
  have hcb : Try.prog.cellsOf 55 = 1 := by kernel_rfl
  rw [hc3] at hl
  obtain ⟨c0, c1, c2, rfl⟩ := len3 hl
  clear hl
  have f0 : Rd enc Try.prog w 3 [c0] := h.field Try.underlying57 0 _ rfl 0 1 _ rfl rfl hci
  have f1 : Rd enc Try.prog w 55 [c1] := h.field Try.underlying57 1 _ rfl 1 1 _ rfl rfl hcb
  have f2 : Rd enc Try.prog w 55 [c2] := h.field Try.underlying57 2 _ rfl 2 1 _ rfl rfl hcb
  obtain ⟨z, h0, hz⟩ := f0.int Try.underlying3
  obtain ⟨v1, l1, h1, b1⟩ := f1.bytes
  obtain ⟨v2, l2, h2, b2⟩ := f2.bytes
  simp only [List.cons.injEq, and_true] at h0 h1 h2
  subst h0 h1 h2
  have := bounds_i64 hz
  exact ⟨⟨z, l1, l2⟩, _, _, rfl, b1, b2, this.1, this.2⟩
end Go.Proofs.Ytpihldeikdiniaa
