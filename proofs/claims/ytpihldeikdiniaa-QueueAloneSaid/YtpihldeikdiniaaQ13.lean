/- Package queue: Pop. -/
import Derived.Test.YtpihldeikdiniaaQ12
namespace Go.Proofs.Ytpihldeikdiniaa
open Go.RowKit
set_option linter.unusedVariables false
set_option linter.unusedSimpArgs false
set_option maxRecDepth 100000 in
set_option maxHeartbeats 800000 in
theorem pop_none {tg : Nat → Nat} {q bl T : Nat} {B I : Int} {m : Nat → List QI} (t : Int) (w : World) (h : QRep tg w q bl T B I m) (hm : mAt m T t = []) :
    Calls Try.prog 37 #[.pointer (some ⟨q, 0, none⟩), .int .i64 t] w fun e w' => e = .returned (.tuple #[.agg #[.int .i64 0, .slice none 0 0, .slice none 0 0], .int .i64 14]) ∧ Below w.heap.size w w' := by
  have HL := Lib.hid (len_any t (w.alloc (.cells #[.int .i64 0, .slice none 0 0, .slice none 0 0] 57)) (h.frm (Frm.of_below (S := NoS) (bl_alloc (Below.refl _ _) _)) (fun _ _ _ h => h)))
  rw [hm] at HL
  clear h hm
  go_enter Try.func37, Try.ntmps37
  go_wp2_with (go_at_call 39; refine HL.out.mono ?_; rintro r w' ⟨rfl, rfl⟩)
  refine bodyPost_ret (v := .tuple #[.agg #[.int .i64 0, .slice none 0 0, .slice none 0 0], .int .i64 14]) (by simp [results, Try.results37, go_sem]) rfl ?_
  refine ⟨rfl, ?_⟩
  repeat (first | exact Below.refl _ _ | apply bl_alloc | refine bl_set ?_ (Nat.le_refl _) _)
def PopPost (tg : Nat → Nat) (w : World) (q bl T : Nat) (B I : Int) (m : Nat → List QI) (t : Nat) (x : QI) (l : List QI) (e : Ending) (w' : World) : Prop :=
  ∃ hv bv, e = .returned (.tuple #[.agg #[.int .i64 x.num, hv, bv], .int .i64 0]) ∧ ItemIn (fun k => w.heap.size ≤ k ∧ k < w'.heap.size) w' x [.int .i64 x.num, hv, bv] ∧ (∃ A c, hv = .slice A x.h.length c) ∧ (∃ A c, bv = .slice A x.b.length c) ∧ QRep tg w' q bl T B I (upd m t l) ∧ Frm (LineS tg t) w w'
set_option maxRecDepth 100000 in
set_option maxHeartbeats 1600000 in
theorem pop_yes {tg : Nat → Nat} {q bl T : Nat} {B I : Int} {m : Nat → List QI} (t : Int) (x : QI) (l : List QI) (w : World) (h : QRep tg w q bl T B I m) (hm : mAt m T t = x :: l) :
    Calls Try.prog 37 #[.pointer (some ⟨q, 0, none⟩), .int .i64 t] w (PopPost tg w q bl T B I m t.toNat x l) := by
  obtain ⟨h0, h1, hmt⟩ := mAt_yes hm
  have HT : Hid (t.toNat < T) := by unfold Hid; omega
  have hF0 : Frm NoS w (w.alloc (.cells #[.int .i64 0, .slice none 0 0, .slice none 0 0] 57)) := Frm.alloc (Frm.refl _ _) _
  have hQ0 := h.frm hF0 (fun _ _ _ h => h)
  have HL := Lib.hid (len_any t _ hQ0)
  rw [hm] at HL
  have HO := Lib.hid (of_yes t _ hQ0 h0 h1)
  have HG := Lib.hid (gone_yes (i := 0) (x := x) _ hQ0 HT.out (by rw [hmt]; rfl))
  have HU : Hid (upd m t.toNat ((m t.toNat).eraseIdx 0) = upd m t.toNat l) := by unfold Hid; rw [hmt]; rfl
  have hlf : l.length + 1 ≤ 4096 := by
    obtain ⟨v, r, _, hlv⟩ := h.line t.toNat HT.out
    have := hlv.few
    rw [hmt] at this
    exact this
  have HTZ : Hid (∀ k, w.heap.size ≤ k → tg k = 0) := fun k hk => by
    by_cases e : tg k = 0
    · exact e
    · have := h.lt k e; omega
  have hlen : (x :: l).length = l.length + 1 := rfl
  rw [hlen] at HL
  have hr0 : (w.alloc (.cells #[.int .i64 0, .slice none 0 0, .slice none 0 0] 57)).cell? ⟨w.heap.size, 0, none⟩ = some (.int .i64 0) := World.cell?_alloc_at _ _ _ _ rfl
  have hr1 : (w.alloc (.cells #[.int .i64 0, .slice none 0 0, .slice none 0 0] 57)).cell? ⟨w.heap.size, 1, none⟩ = some (.slice none 0 0) := World.cell?_alloc_at _ _ _ _ rfl
  have hr2 : (w.alloc (.cells #[.int .i64 0, .slice none 0 0, .slice none 0 0] 57)).cell? ⟨w.heap.size, 2, none⟩ = some (.slice none 0 0) := World.cell?_alloc_at _ _ _ _ rfl
  have hrf : Hid (∀ j, (w.alloc (.cells #[.int .i64 0, .slice none 0 0, .slice none 0 0] 57)).frozen? ⟨w.heap.size, j, none⟩ = false) := fun j => World.frozen?_alloc_at _ _ _ _ rfl
  have HR := Lib.hid (And.intro hr0 (And.intro hr1 hr2))
  have hrz : Hid (w.heap.size + 1 = (w.alloc (.cells #[.int .i64 0, .slice none 0 0, .slice none 0 0] 57)).heap.size) := by unfold Hid; simp
  have HF := Lib.hid hF0
  have HNS : Hid (∀ j, ¬ LineS tg t.toNat w.heap.size j) := fun j hS => by have := HTZ.out w.heap.size (Nat.le_refl _); unfold LineS at hS; omega
  clear hr0 hr1 hr2 hF0 hQ0 h hm hmt hlen
  generalize l.length = n at *
  go_enter Try.func37, Try.ntmps37
  go_wp2_with (first | (go_at_call 39; refine HL.out.mono ?_; rintro r w' ⟨rfl, rfl⟩; clear HL) | (go_at_call 73; refine HO.out.mono ?_; rintro r w' ⟨rfl, rfl⟩; clear HO) | fail)
  refine HG.out.mono ?_
  clear HG
  rintro r w6 ⟨hv, bv, rfl, g1, g2, g3, g4⟩
  have HQ6 := Lib.hid g3
  have HF6 := Lib.hid g4
  have m0 := g4.keep HR.out.1 (HNS.out 0)
  have m1 := g4.keep HR.out.2.1 (HNS.out 1)
  have m2 := g4.keep HR.out.2.2 (HNS.out 2)
  have n0 := g4.keepf HR.out.1 (hrf.out 0) (HNS.out 0)
  have n1 := g4.keepf HR.out.2.1 (hrf.out 1) (HNS.out 0)
  have n2 := g4.keepf HR.out.2.2 (hrf.out 2) (HNS.out 0)
  have HOW := Lib.hid (own_any x w6 g1 g2)
  obtain ⟨A, c, rfl, _⟩ := g1
  obtain ⟨A', c', rfl, _⟩ := g2
  clear g3 g4
  go_wp2_with (go_at_call 74; refine HOW.out.mono ?_; clear HOW; rintro r w5 ⟨hv5, bv5, rfl, hit, ⟨A5, c5, rfl⟩, ⟨A6, c6, rfl⟩, hbl5, -, -⟩; have k0 := (Frm.of_below (S := NoS) hbl5).keep m0 (fun h => h); have k1 := (Frm.of_below (S := NoS) hbl5).keep m1 (fun h => h); have k2 := (Frm.of_below (S := NoS) hbl5).keep m2 (fun h => h); have f0 := (Frm.of_below (S := NoS) hbl5).keepf m0 n0 (j := 0) (fun h => h); have f1 := (Frm.of_below (S := NoS) hbl5).keepf m1 n1 (j := 0) (fun h => h); have f2 := (Frm.of_below (S := NoS) hbl5).keepf m2 n2 (j := 0) (fun h => h); have L5 := Lib.hid hbl5; have Q5 := Lib.hid hit; clear hit hbl5)
  refine bodyPost_ret (v := .tuple #[.agg #[.int .i64 x.num, .slice A5 x.h.length c5, .slice A6 x.b.length c6], .int .i64 0]) (by simp [results, Try.results37, go_sem, k0, k1, k2]) rfl ?_
  have hz := hrz.out
  have hz5 := L5.out.size
  have hz6 := HF6.out.size
  have hfin : Frm (ItemS w.heap.size) w5 (((w5.setCell ⟨w.heap.size, 0, none⟩ (.int .i64 x.num)).setCell ⟨w.heap.size, 1, none⟩ (.slice A5 x.h.length c5)).setCell ⟨w.heap.size, 2, none⟩ (.slice A6 x.b.length c6)) :=
    (((Frm.refl _ _).set_old (p := ⟨w.heap.size, 0, none⟩) ⟨rfl, by simp⟩ _).set_old (p := ⟨w.heap.size, 1, none⟩) ⟨rfl, by simp⟩ _).set_old (p := ⟨w.heap.size, 2, none⟩) ⟨rfl, by simp⟩ _
  have hf65 := (Frm.of_below (S := ItemS w.heap.size) L5.out).trans hfin
  refine ⟨_, _, rfl, ?_, ⟨_, _, rfl⟩, ⟨_, _, rfl⟩, ?_, ?_⟩
  · exact (Q5.out.frm hfin (fun k j hk hS => by have := hS.1; omega)).mono (fun k _ hk => ⟨by omega, by simp; omega⟩)
  · rw [← HU.out]
    exact HQ6.out.frm hf65 (fun k j hk hS => by have := hS.1; have := HTZ.out k (by omega); omega)
  · exact ((HF.out.mono (fun _ _ _ h => h.elim)).trans HF6.out).then_ hf65 (fun b j hb hS => by have := hS.1; omega)
end Go.Proofs.Ytpihldeikdiniaa
