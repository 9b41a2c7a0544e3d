/- Package squintlaw18: one, of any call; a tenant's list in the row m. -/
import Derived.Test.YtpihldeikdiniaaQ34
namespace Go.Proofs.Ytpihldeikdiniaa
open Go.RowKit
set_option linter.unusedVariables false
set_option linter.unusedSimpArgs false
theorem one_any {tg : Nat → Nat} {ok okb : Nat → Prop} {q bl T : Nat} {B I : Int} {m : Nat → List QI} {v hv bv zv : Value} (o : OpD) (w : World) (h : QRep tg w q bl T B I m) (hr : RefIn ok w v (m o.t.toNat)) (hok : ∀ k, ok k → tg k = 0)
    (hh : BytesIn okb w hv o.x.h) (hb : BytesIn okb w bv o.x.b) (h0 : 0 ≤ o.t) (h1 : o.t < T) (hli : ((m o.t.toNat).length : Int) ≤ I) :
    Calls Try.prog 44 #[.pointer (some ⟨q, 0, none⟩), v, .agg #[.int .i64 (T : Int), .int .i64 B, .int .i64 I, zv], .agg #[.int .i64 o.kind, .int .i64 o.t, .int .i64 o.n, .int .i64 o.x.num, hv, bv]] w (OnePost tg ok w q bl T B I m o.t.toNat (oneL B I (m o.t.toNat) o)) := by
  obtain ⟨kind, t, n, x⟩ := o
  simp only at *
  by_cases k1 : kind = 1
  · subst k1
    by_cases hq : I ≤ ((m t.toNat).length : Int) ∨ B < qbytes (m t.toNat) + x.size
    · rw [show oneL B I (m t.toNat) ⟨1, t, n, x⟩ = m t.toNat from by simp [oneL, hq]]
      exact one_put_no t n x w h hr hok hh hb h0 h1 hli hq
    · rw [show oneL B I (m t.toNat) ⟨1, t, n, x⟩ = m t.toNat ++ [x] from by simp [oneL, hq]]
      exact one_put_yes t n x w h hr hok hh hb h0 h1 hli (by omega) (by omega)
  by_cases k5 : kind = 5
  · subst k5
    rw [show oneL B I (m t.toNat) ⟨5, t, n, x⟩ = dropN n (m t.toNat) from by simp [oneL]]
    exact one_drop t n x w h hr hok hh hb h0 h1 hli
  cases hm : m t.toNat with
  | nil =>
    rw [show oneL B I [] ⟨kind, t, n, x⟩ = m t.toNat from by simp [oneL, k1, k5, hm]]
    exact one_none kind t n x w h hr hok hh hb h0 h1 hli k1 k5 hm
  | cons x0 r =>
    by_cases k3 : kind = 3
    · subst k3
      by_cases hn : n < 0 ∨ (x0.b.length : Int) < n
      · rw [show oneL B I (x0 :: r) ⟨3, t, n, x⟩ = m t.toNat from by simp [oneL, hm, hn]]
        exact one_cut_no t n x w h hr hok hh hb h0 h1 hli x0 r hm hn
      · rw [show oneL B I (x0 :: r) ⟨3, t, n, x⟩ = ⟨x0.num, x0.h, x0.b.drop n.toNat⟩ :: r from by simp [oneL, hn]]
        have hn2 : ((n.toNat : Nat) : Int) = n := by omega
        have := one_cut_yes (zv := zv) t n.toNat x w h hr hok hh hb h0 h1 hli x0 r hm (by omega)
        rw [hn2] at this
        exact this
    by_cases k4 : kind = 4
    · subst k4
      rw [show oneL B I (x0 :: r) ⟨4, t, n, x⟩ = r from by simp [oneL]]
      exact one_pop t n x w h hr hok hh hb h0 h1 hli x0 r hm
    · rw [show oneL B I (x0 :: r) ⟨kind, t, n, x⟩ = m t.toNat from by simp [oneL, k1, k5, k3, k4, hm]]
      by_cases k2 : kind = 2
      · subst k2
        exact one_first t n x w h hr hok hh hb h0 h1 hli x0 r hm
      · exact one_other kind t n x w h hr hok hh hb h0 h1 hli k1 k5 k2 k3 k4 x0 r hm
/-- The lists of all tenants, in a row at block mb. -/
structure MRep (ok : Nat → Prop) (w : World) (mb T : Nat) (mm : Nat → List QI) : Prop where
  cell : ∀ t, t < T → ∃ v, w.cell? ⟨mb, t, none⟩ = some v ∧ RefIn ok w v (mm t)
  fz : ∀ j, w.frozen? ⟨mb, j, none⟩ = false
theorem MRep.frm {ok : Nat → Prop} {S : Nat → Nat → Prop} {w w' : World} {mb T : Nat} {mm : Nat → List QI} (h : MRep ok w mb T mm) (hT : 0 < T) (hf : Frm S w w') (hn : ∀ k j, ok k → ¬ S k j) (hm : ∀ j, ¬ S mb j) : MRep ok w' mb T mm where
  cell := fun t ht => by
    obtain ⟨v, h1, h2⟩ := h.cell t ht
    exact ⟨v, hf.keep h1 (hm _), h2.frm hf hn⟩
  fz := fun j => by
    obtain ⟨v, h1, _⟩ := h.cell 0 hT
    exact (hf.frozen (p := ⟨mb, j, none⟩) (show mb < w.heap.size from World.block_lt_of_cell? w _ h1) (hm 0)).trans (h.fz j)
theorem MRep.mono {ok ok' : Nat → Prop} {w : World} {mb T : Nat} {mm : Nat → List QI} (h : MRep ok w mb T mm) (hok : ∀ k, k < w.heap.size → ok k → ok' k) : MRep ok' w mb T mm where
  cell := fun t ht => by
    obtain ⟨v, h1, h2⟩ := h.cell t ht
    exact ⟨v, h1, h2.mono hok⟩
  fz := h.fz
/-- One list is another one: its slice is stored. -/
theorem MRep.set {ok : Nat → Prop} {w : World} {mb T : Nat} {mm : Nat → List QI} (h : MRep ok w mb T mm) {t : Nat} (ht : t < T) {v : Value} {l : List QI} (hl : RefIn ok w v l) (hok : ¬ ok mb) : MRep ok (w.setCell ⟨mb, t, none⟩ v) mb T (upd mm t l) where
  cell := fun s hs => by
    have hf : Frm (fun k _ => k = mb) w (w.setCell ⟨mb, t, none⟩ v) := (Frm.refl _ _).set_old (p := ⟨mb, t, none⟩) rfl _
    have hn : ∀ k (j : Nat), ok k → ¬ k = mb := fun k j hk e => hok (e ▸ hk)
    by_cases e : s = t
    · subst e
      obtain ⟨u, h1, _⟩ := h.cell s hs
      exact ⟨v, World.cell?_setCell_same _ _ _ h1, by simpa [upd] using hl.frm hf hn⟩
    · obtain ⟨u, h1, h2⟩ := h.cell s hs
      exact ⟨u, (World.cell?_setCell_other _ _ _ _ (by simp <;> omega)).trans h1, by simp only [upd, if_neg e]; exact h2.frm hf hn⟩
  fz := fun j => (World.frozen?_setCell _ _ _ _).trans (h.fz j)
theorem RefIn.nil_ (ok : Nat → Prop) (w : World) : RefIn ok w (.slice none 0 0) [] := ⟨none, 0, rfl, Nat.le_refl _, Nat.zero_le _, by simp, fun h => absurd h (by simp)⟩
def okM (tg : Nat → Nat) (mb : Nat) : Nat → Prop := fun k => tg k = 0 ∧ k ≠ mb
end Go.Proofs.Ytpihldeikdiniaa
