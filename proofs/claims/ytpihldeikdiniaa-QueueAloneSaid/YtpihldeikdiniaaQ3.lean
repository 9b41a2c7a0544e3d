/- Package queue: an item's own copy. -/
import Derived.Test.YtpihldeikdiniaaQ2
namespace Go.Proofs.Ytpihldeikdiniaa
open Go.RowKit
set_option linter.unusedVariables false
set_option linter.unusedSimpArgs false
theorem res_cells (w : World) (o : Obj) : let W := (w.alloc o).alloc (.cells #[.int .i64 0, .slice none 0 0, .slice none 0 0] 57)
    W.cell? ⟨w.heap.size + 1, 0, none⟩ = some (.int .i64 0) ∧ W.cell? ⟨w.heap.size + 1, 1, none⟩ = some (.slice none 0 0) ∧ W.cell? ⟨w.heap.size + 1, 2, none⟩ = some (.slice none 0 0) ∧ ∀ j, W.frozen? ⟨w.heap.size + 1, j, none⟩ = false := by
  intro W
  have e : w.heap.size + 1 = (w.alloc o).heap.size := by simp
  exact ⟨World.cell?_alloc_at _ _ _ _ e, World.cell?_alloc_at _ _ _ _ e, World.cell?_alloc_at _ _ _ _ e, fun j => World.frozen?_alloc_at _ _ _ _ e⟩
def ResS (w : World) : Nat → Nat → Prop := fun k j => k = w.heap.size + 1 ∧ j < 3
theorem resS_not (w : World) : ¬ ResS w (w.heap.size + 1) 3 := fun h => absurd h.2 (by decide)
def OwnPost (w : World) (x : QI) (e : Ending) (w' : World) : Prop :=
  ∃ hv bv, e = .returned (.agg #[.int .i64 x.num, hv, bv]) ∧ ItemIn (fun k => w.heap.size ≤ k ∧ k < w'.heap.size) w' x [.int .i64 x.num, hv, bv] ∧ (∃ A c, hv = .slice A x.h.length c) ∧ (∃ A c, bv = .slice A x.b.length c) ∧ Below w.heap.size w w' ∧ FreeIn w.heap.size w' hv ∧ FreeIn w.heap.size w' bv
set_option maxRecDepth 100000 in
set_option maxHeartbeats 3200000 in
theorem own_any {ok : Nat → Prop} {hv bv : Value} (x : QI) (w : World) (hh : BytesIn ok w hv x.h) (hb : BytesIn ok w bv x.b) :
    Calls Try.prog 74 #[.agg #[.int .i64 x.num, hv, bv]] w (OwnPost w x) := by
  have H1 : Hid (∀ W, Frm NoS w W → BytesIn ok W hv x.h) := fun W hf => hh.frm hf (fun _ _ _ h => h)
  have H2 : Hid (∀ W, Frm NoS w W → BytesIn ok W bv x.b) := fun W hf => hb.frm hf (fun _ _ _ h => h)
  obtain ⟨A, c, rfl, _⟩ := hh
  obtain ⟨A', c', rfl, _⟩ := hb
  obtain ⟨xn, xh, xb⟩ := x
  go_enter Try.func74, Try.ntmps74
  go_wp2_with fail
  have HF : Hid (Frm NoS w ((w.alloc (.cells #[.int .i64 xn, .slice A xh.length c, .slice A' xb.length c'] 57)).alloc (.cells #[.int .i64 0, .slice none 0 0, .slice none 0 0] 57))) := Frm.alloc (Frm.alloc (Frm.refl _ _) _) _
  have hp0 : ((w.alloc (.cells #[.int .i64 xn, .slice A xh.length c, .slice A' xb.length c'] 57)).alloc (.cells #[.int .i64 0, .slice none 0 0, .slice none 0 0] 57)).cell? ⟨w.heap.size, 0, none⟩ = some (.int .i64 xn) := by simp
  have hp1 : ((w.alloc (.cells #[.int .i64 xn, .slice A xh.length c, .slice A' xb.length c'] 57)).alloc (.cells #[.int .i64 0, .slice none 0 0, .slice none 0 0] 57)).cell? ⟨w.heap.size, 1, none⟩ = some (.slice A xh.length c) := by simp
  have hp2 : ((w.alloc (.cells #[.int .i64 xn, .slice A xh.length c, .slice A' xb.length c'] 57)).alloc (.cells #[.int .i64 0, .slice none 0 0, .slice none 0 0] 57)).cell? ⟨w.heap.size, 2, none⟩ = some (.slice A' xb.length c') := by simp
  obtain ⟨hr0, hr1, hr2, hrf⟩ := res_cells w (.cells #[.int .i64 xn, .slice A xh.length c, .slice A' xb.length c'] 57)
  have hrf0 := hrf 0
  have hrf1 := hrf 1
  have hrf2 := hrf 2
  clear hrf
  have hrz : w.heap.size + 2 ≤ ((w.alloc (.cells #[.int .i64 xn, .slice A xh.length c, .slice A' xb.length c'] 57)).alloc (.cells #[.int .i64 0, .slice none 0 0, .slice none 0 0] 57)).heap.size := by simp
  generalize World.alloc _ (.cells #[.int .i64 0, .slice none 0 0, .slice none 0 0] 57) = W0 at *
  go_region_held3 (fun w' => w'.cell? ⟨w.heap.size, 0, none⟩ = some (.int .i64 xn) ∧ w'.cell? ⟨w.heap.size, 1, none⟩ = some (.slice A xh.length c) ∧ w'.cell? ⟨w.heap.size, 2, none⟩ = some (.slice A' xb.length c') ∧ Frm (ResS w) W0 w') ((first | exact hN5 | exact hN4 | (refine ⟨?_, ?_, ?_, ?_⟩ <;> first | exact (Frm.refl (ResS w) W0).drew | (go_keep; done) | exact ((hN5.2.2.2.set_old (p := ⟨w.heap.size + 1, 0, none⟩) ⟨rfl, by simp⟩ _).set_old (p := ⟨w.heap.size + 1, 1, none⟩) ⟨rfl, by simp⟩ _).set_old (p := ⟨w.heap.size + 1, 2, none⟩) ⟨rfl, by simp⟩ _))) (first | (go_at_call 94; have hS := ‹_ ∧ _ ∧ _ ∧ Frm (ResS w) W0 _›; refine (clone_any (ok := ok) _ (H1.out _ (HF.out.then_ hS.2.2.2 (fun b _ hb hbe => absurd hbe.1 (by omega))))).mono ?_; clear H1; rintro r w4 ⟨v4, rfl, hq4, hl4, hs4⟩; have hN4 := And.intro ((Frm.of_below (S := NoS) hl4).keep hS.1 (fun h => h)) (And.intro ((Frm.of_below (S := NoS) hl4).keep hS.2.1 (fun h => h)) (And.intro ((Frm.of_below (S := NoS) hl4).keep hS.2.2.1 (fun h => h)) (hS.2.2.2.trans (Frm.of_below (S := ResS w) hl4)))); have Z4 := Lib.hid hS.2.2.2; clear hS; have Q4 := Lib.hid hq4; have L4 := Lib.hid hl4; clear hq4 hl4; obtain ⟨⟨A4, c4, rfl⟩, fr4⟩ := hs4; have FR4 := Lib.hid fr4; clear fr4) | (go_at_call 94; have hS := ‹_ ∧ _ ∧ _ ∧ Frm (ResS w) W0 _›; refine (clone_any (ok := ok) _ (H2.out _ (HF.out.then_ hS.2.2.2 (fun b _ hb hbe => absurd hbe.1 (by omega))))).mono ?_; clear H2; rintro r w5 ⟨v5, rfl, hq5, hl5, hs5⟩; have hN5 := And.intro ((Frm.of_below (S := NoS) hl5).keep hS.1 (fun h => h)) (And.intro ((Frm.of_below (S := NoS) hl5).keep hS.2.1 (fun h => h)) (And.intro ((Frm.of_below (S := NoS) hl5).keep hS.2.2.1 (fun h => h)) (hS.2.2.2.trans (Frm.of_below (S := ResS w) hl5)))); obtain ⟨e0, hk0⟩ := hN5.2.2.2.there hr0 (resS_not w); have hkf0 := hN5.2.2.2.keepf hr0 hrf0 (resS_not w); obtain ⟨e1, hk1⟩ := hN5.2.2.2.there hr1 (resS_not w); have hkf1 := hN5.2.2.2.keepf hr1 hrf1 (resS_not w); obtain ⟨e2, hk2⟩ := hN5.2.2.2.there hr2 (resS_not w); have hkf2 := hN5.2.2.2.keepf hr2 hrf2 (resS_not w); have Z5 := Lib.hid hS.2.2.2; clear hS; have Q5 := Lib.hid hq5; have L5 := Lib.hid hl5; clear hq5 hl5; obtain ⟨⟨A5, c5, rfl⟩, fr5⟩ := hs5; have FR5 := Lib.hid fr5; clear fr5))
  go_wp2
  refine bodyPost_ret (v := .agg #[.int .i64 xn, .slice A4 xh.length c4, .slice A5 xb.length c5]) (by simp [results, Try.results74, go_sem, hk0, hk1, hk2]) rfl ?_
  have hz0 : w.heap.size + 2 ≤ W0.heap.size := hrz
  have l4 := L4.out
  have l5 := L5.out
  have hz4 : W0.heap.size ≤ w4.heap.size := l4.size
  have hz5 : w4.heap.size ≤ w5.heap.size := l5.size
  have hfin : Frm (ResS w) w5 (((w5.setCell ⟨w.heap.size + 1, 0, none⟩ (.int .i64 xn)).setCell ⟨w.heap.size + 1, 1, none⟩ (.slice A4 xh.length c4)).setCell ⟨w.heap.size + 1, 2, none⟩ (.slice A5 xb.length c5)) :=
    (((Frm.refl _ _).set_old (p := ⟨w.heap.size + 1, 0, none⟩) ⟨rfl, by simp⟩ _).set_old (p := ⟨w.heap.size + 1, 1, none⟩) ⟨rfl, by simp⟩ _).set_old (p := ⟨w.heap.size + 1, 2, none⟩) ⟨rfl, by simp⟩ _
  have hres : ∀ k j, W0.heap.size ≤ k → ¬ ResS w k j := fun k j hk h => absurd h.1 (by omega)
  refine ⟨_, _, rfl, ⟨_, _, rfl, ?_, ?_⟩, ⟨_, _, rfl⟩, ⟨_, _, rfl⟩, ?_, ?_, ?_⟩
  · exact (((Q4.out.frm (Frm.of_below (S := NoS) l5) (fun _ _ _ h => h)).frm hfin (fun k j hk => hres k j hk.1))).mono (fun k _ hk => ⟨by have : W0.heap.size ≤ k := hk.1; omega, by have := hk.2; simp; omega⟩)
  · exact (Q5.out.frm hfin (fun k j hk => hres k j (Nat.le_trans hz4 hk.1))).mono (fun k _ hk => ⟨by have := hk.1; omega, by have := hk.2; simp; omega⟩)
  · exact ((HF.out.then_ (Z5.out.trans ((Frm.of_below (S := ResS w) l5).trans hfin)) (fun b _ hb hbe => absurd hbe.1 (by omega)))).no
  · exact ((FR4.out.frm (Frm.of_below (S := NoS) l5) (fun _ _ _ _ h => h)).frm hfin (fun k hk _ j h => hres k j hk h)).mono (by show w.heap.size ≤ W0.heap.size; omega)
  · exact (FR5.out.frm hfin (fun k hk _ j h => hres k j (Nat.le_trans hz4 hk) h)).mono (by show w.heap.size ≤ w4.heap.size; omega)
end Go.Proofs.Ytpihldeikdiniaa
