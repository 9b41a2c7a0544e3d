/- What came in: a case of the queue's laws. -/
import Derived.Test.YtpihldeikdiniaaRdB
import Derived.Test.YtpihldeikdiniaaQ38
namespace Go.Proofs.Ytpihldeikdiniaa
open Go.ChangeShapes Go.WideShapes Go.Deep
set_option linter.unusedVariables false
set_option linter.unusedSimpArgs false
instance : Inhabited OpD := ⟨⟨0, 0, 0, ⟨0, [], []⟩⟩⟩
theorem reach80 {n : Nat} (h : n * 80 ≤ reachBytes) : n ≤ 140737488351232 := by unfold reachBytes at h; omega
theorem Rd.op {H : Type} {enc : TypeId × Value → H} {w : World} {cs : List Value} (h : Rd enc Try.prog w 76 cs) : ∃ (op : OpD) (hv bv : Value), cs = [.int .i64 op.kind, .int .i64 op.t, .int .i64 op.n, .int .i64 op.x.num, hv, bv] ∧ BytesIn (fun k => k < w.heap.size) w hv op.x.h ∧ BytesIn (fun k => k < w.heap.size) w bv op.x.b := by
  obtain ⟨hl, _⟩ := h.struct Try.underlying76
  have hc6 : Try.prog.cellsOf 76 = 6 := by kernel_rfl
  have hc3 : Try.prog.cellsOf 57 = 3 := by kernel_rfl
  have hci : Try.prog.cellsOf 3 = 1 := by kernel_rfl
  rw [hc6] at hl
  obtain ⟨c0, c1, c2, c3, c4, c5, rfl⟩ := len6 hl
  clear hl
  have f0 : Rd enc Try.prog w 3 [c0] := h.field Try.underlying76 0 _ rfl 0 1 _ rfl rfl hci
  have f1 : Rd enc Try.prog w 3 [c1] := h.field Try.underlying76 1 _ rfl 1 1 _ rfl rfl hci
  have f2 : Rd enc Try.prog w 3 [c2] := h.field Try.underlying76 2 _ rfl 2 1 _ rfl rfl hci
  have f3 : Rd enc Try.prog w 57 [c3, c4, c5] := h.field Try.underlying76 3 _ rfl 3 3 _ rfl rfl hc3
  obtain ⟨z0, h0, _⟩ := f0.int Try.underlying3
  obtain ⟨z1, h1, _⟩ := f1.int Try.underlying3
  obtain ⟨z2, h2, _⟩ := f2.int Try.underlying3
  obtain ⟨x, hv, bv, h3, b1, b2, _⟩ := f3.item
  simp only [List.cons.injEq, and_true] at h0 h1 h2 h3
  obtain ⟨e3, e4, e5⟩ := h3
  subst h0 h1 h2 e3 e4 e5
  exact ⟨⟨z0, z1, z2, x⟩, _, _, rfl, b1, b2⟩
theorem Rd.ops {H : Type} {enc : TypeId × Value → H} {w : World} {cs : List Value} (h : Rd enc Try.prog w 69 cs) : ∃ v l, cs = [v] ∧ OpsIn (fun k => k < w.heap.size) w v l := by
  have hb1 : Try.prog.bytesOf 76 = 80 := by kernel_rfl
  have hc1 : Try.prog.cellsOf 76 = 6 := by kernel_rfl
  rcases h.slice Try.underlying69 with hcs | ⟨a, len, cap, hcs, hl, hm, hr, hi⟩
  · exact ⟨_, [], hcs, none, 0, rfl, by simp, fun h0 => absurd h0 (by simp)⟩
  · rw [hb1] at hr
    have hr' := reach80 hr
    rw [hc1] at hi
    have hone : ∀ i, i < cap → ∃ op : OpD, ∃ (hv bv : Value), (∀ j u, ([.int .i64 op.kind, .int .i64 op.t, .int .i64 op.n, .int .i64 op.x.num, hv, bv] : List Value)[j]? = some u → w.cell? (a.add (i * 6 + j)) = some u) ∧ BytesIn (fun k => k < w.heap.size) w hv op.x.h ∧ BytesIn (fun k => k < w.heap.size) w bv op.x.b := fun i hi' => by
      obtain ⟨cs', h1, h2⟩ := hi i hi'
      obtain ⟨op, hv, bv, rfl, b1, b2⟩ := h2.op
      obtain ⟨_, _, hat⟩ := World.cells?_some h1
      refine ⟨op, hv, bv, fun j u hj => ?_, b1, b2⟩
      have hj6 : j < 6 := by simpa using (List.getElem?_eq_some_iff.1 hj).1
      have := hat j hj6
      rw [add_add] at this
      rw [this, hj]
    obtain ⟨f, hf⟩ := choose_lt hone
    refine ⟨_, (List.range len).map f, hcs, some a, cap, by simp, by simp; omega, fun h0 => ?_⟩
    have h0' : 0 < len := by simpa using h0
    obtain ⟨b, o, s⟩ := a
    have hs : s = none := by
      obtain ⟨hv, bv, hc, _⟩ := hf 0 (by omega)
      simpa [Addr.add] using World.cell?_spot (hc 0 _ rfl)
    subst hs
    refine ⟨b, o, rfl, ?_, fun i op hj => ?_⟩
    · obtain ⟨hv, bv, hc, _⟩ := hf 0 (by omega)
      have := World.block_lt_of_cell? w _ (hc 0 _ rfl)
      simpa [Addr.add] using this
    · rw [List.getElem?_map] at hj
      have hj2 : i < len := by
        rcases Nat.lt_or_ge i len with h | h
        · exact h
        · rw [List.getElem?_eq_none (by simpa using h)] at hj; cases hj
      rw [List.getElem?_range hj2] at hj
      obtain rfl : f i = op := by simpa using hj
      obtain ⟨hv, bv, hc, b1, b2⟩ := hf i (by omega)
      have hc' : ∀ j u, ([.int .i64 (f i).kind, .int .i64 (f i).t, .int .i64 (f i).n, .int .i64 (f i).x.num, hv, bv] : List Value)[j]? = some u → w.cell? ⟨b, o + i * 6 + j, none⟩ = some u := fun j u hu => by
        have := hc j u hu
        rw [Addr.add_lit] at this
        rwa [show o + i * 6 + j = o + (i * 6 + j) from by omega]
      exact ⟨hv, bv, hc' 0 _ rfl, hc' 1 _ rfl, hc' 2 _ rfl, hc' 3 _ rfl, hc' 4 _ rfl, hc' 5 _ rfl, b1, b2⟩
theorem Rd.case18 {H : Type} {enc : TypeId × Value → H} {w : World} {cs : List Value} (h : Rd enc Try.prog w 71 cs) : ∃ (T B I : Int) (v : Value) (l : List OpD), cs = [.int .i64 T, .int .i64 B, .int .i64 I, v] ∧ OpsIn (fun k => k < w.heap.size) w v l := by
  obtain ⟨hl, _⟩ := h.struct Try.underlying71
  have hc4 : Try.prog.cellsOf 71 = 4 := by kernel_rfl
  have hci : Try.prog.cellsOf 3 = 1 := by kernel_rfl
  have hcs : Try.prog.cellsOf 69 = 1 := by kernel_rfl
  rw [hc4] at hl
  obtain ⟨c0, c1, c2, c3, rfl⟩ := len4 hl
  clear hl
  have f0 : Rd enc Try.prog w 3 [c0] := h.field Try.underlying71 0 _ rfl 0 1 _ rfl rfl hci
  have f1 : Rd enc Try.prog w 3 [c1] := h.field Try.underlying71 1 _ rfl 1 1 _ rfl rfl hci
  have f2 : Rd enc Try.prog w 3 [c2] := h.field Try.underlying71 2 _ rfl 2 1 _ rfl rfl hci
  have f3 : Rd enc Try.prog w 69 [c3] := h.field Try.underlying71 3 _ rfl 3 1 _ rfl rfl hcs
  obtain ⟨z0, h0, _⟩ := f0.int Try.underlying3
  obtain ⟨z1, h1, _⟩ := f1.int Try.underlying3
  obtain ⟨z2, h2, _⟩ := f2.int Try.underlying3
  obtain ⟨v, l, h3, b1⟩ := f3.ops
  simp only [List.cons.injEq, and_true] at h0 h1 h2 h3
  subst h0 h1 h2 h3
  exact ⟨z0, z1, z2, _, l, rfl, b1⟩
end Go.Proofs.Ytpihldeikdiniaa
