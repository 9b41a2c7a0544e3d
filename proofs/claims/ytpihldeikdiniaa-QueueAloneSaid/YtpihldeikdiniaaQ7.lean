/- Package queue: First. -/
import Derived.Test.YtpihldeikdiniaaQ3
namespace Go.Proofs.Ytpihldeikdiniaa
open Go.RowKit
set_option linter.unusedVariables false
set_option linter.unusedSimpArgs false
/-- An item of a line, cell by cell. -/
theorem LineIn.at_ {okl okb : Nat → Prop} {w : World} {v : Value} {l : List QI} {r : List (List Value)} (h : LineIn okl okb w v l r) {i : Nat} {x : QI} (hi : l[i]? = some x) :
    ∃ g cap hv bv, v = .slice (some ⟨g, 0, none⟩) l.length cap ∧ okl g ∧ g < w.heap.size ∧ l.length ≤ cap ∧ cap ≤ maxLen ∧ w.cell? ⟨g, i * 3, none⟩ = some (.int .i64 x.num) ∧ w.cell? ⟨g, i * 3 + 1, none⟩ = some hv ∧ w.cell? ⟨g, i * 3 + 2, none⟩ = some bv ∧
      BytesIn okb w hv x.h ∧ BytesIn okb w bv x.b ∧ (∀ j, w.frozen? ⟨g, j, none⟩ = false) ∧ r[i]? = some [.int .i64 x.num, hv, bv] := by
  have hlt := (List.getElem?_eq_some_iff.1 hi).1
  obtain ⟨c, hc, ⟨hv, bv, rfl, h1, h2⟩, hcell⟩ := h.items.get hi
  have hown := h.own
  rcases h.own.2 with ⟨rfl, hz⟩ | ⟨g, cap, cur, rfl, hb, hgg, hn, hcm, hs, ht⟩
  · omega
  · have hcA : ∀ j u, r.flatten[j]? = some u → w.cell? ⟨g, j, none⟩ = some u := fun j u hj => by
      have hj2 := (List.getElem?_eq_some_iff.1 hj).1
      rw [hown.cellAt j (by rw [← hown.1]; exact hj2)]; exact hj
    exact ⟨g, cap, hv, bv, rfl, h.ok g rfl, (Array.getElem?_eq_some_iff.1 hgg).1, hn, hcm, hcA _ _ (hcell 0 _ rfl), hcA _ _ (hcell 1 _ rfl), hcA _ _ (hcell 2 _ rfl), h1, h2, fun j => hown.frozenAt j, hc⟩
set_option maxRecDepth 100000 in
set_option maxHeartbeats 800000 in
theorem first_none {tg : Nat → Nat} {q bl T : Nat} {B I : Int} {m : Nat → List QI} (t : Int) (w : World) (h : QRep tg w q bl T B I m) (hm : mAt m T t = []) :
    Calls Try.prog 35 #[.pointer (some ⟨q, 0, none⟩), .int .i64 t] w fun e w' => e = .returned (.tuple #[.agg #[.int .i64 0, .slice none 0 0, .slice none 0 0], .int .i64 14]) ∧ Below w.heap.size w w' := by
  have HL := Lib.hid (len_any t (w.alloc (.cells #[.int .i64 0, .slice none 0 0, .slice none 0 0] 57)) (h.frm (Frm.of_below (S := NoS) (bl_alloc (Below.refl _ _) _)) (fun _ _ _ h => h)))
  rw [hm] at HL
  clear h hm
  go_enter Try.func35, Try.ntmps35
  go_wp2_with (go_at_call 39; refine HL.out.mono ?_; rintro r w' ⟨rfl, rfl⟩)
  refine bodyPost_ret (v := .tuple #[.agg #[.int .i64 0, .slice none 0 0, .slice none 0 0], .int .i64 14]) (by simp [results, Try.results35, go_sem]) rfl ?_
  refine ⟨rfl, ?_⟩
  repeat (first | exact Below.refl _ _ | apply bl_alloc | refine bl_set ?_ (Nat.le_refl _) _)
/-- What an item that is given is: its own copy. -/
def GivePost (w : World) (x : QI) (e : Ending) (w' : World) : Prop :=
  ∃ hv bv, e = .returned (.tuple #[.agg #[.int .i64 x.num, hv, bv], .int .i64 0]) ∧ ItemIn (fun k => w.heap.size ≤ k ∧ k < w'.heap.size) w' x [.int .i64 x.num, hv, bv] ∧ (∃ A c, hv = .slice A x.h.length c) ∧ (∃ A c, bv = .slice A x.b.length c) ∧ Below w.heap.size w w' ∧ FreeIn (w.heap.size + 1) w' hv ∧ FreeIn (w.heap.size + 1) w' bv
theorem mAt_yes {m : Nat → List QI} {T : Nat} {t : Int} {x : QI} {l : List QI} (h : mAt m T t = x :: l) : 0 ≤ t ∧ t < T ∧ m t.toNat = x :: l := by
  unfold mAt at h
  split at h
  · rename_i h1; exact ⟨h1.1, h1.2, h⟩
  · cases h
def ItemS (n : Nat) : Nat → Nat → Prop := fun k j => k = n ∧ j < 3
set_option maxRecDepth 100000 in
set_option maxHeartbeats 1600000 in
theorem first_yes {tg : Nat → Nat} {q bl T : Nat} {B I : Int} {m : Nat → List QI} (t : Int) (x : QI) (l : List QI) (w : World) (h : QRep tg w q bl T B I m) (hm : mAt m T t = x :: l) :
    Calls Try.prog 35 #[.pointer (some ⟨q, 0, none⟩), .int .i64 t] w (GivePost w x) := by
  obtain ⟨h0, h1, hmt⟩ := mAt_yes hm
  have HL := Lib.hid (len_any t (w.alloc (.cells #[.int .i64 0, .slice none 0 0, .slice none 0 0] 57)) (h.frm (Frm.of_below (S := NoS) (bl_alloc (Below.refl _ _) _)) (fun _ _ _ h => h)))
  rw [hm] at HL
  obtain ⟨v, r, hcv, hlv⟩ := h.line t.toNat (by omega)
  rw [hmt] at hlv
  obtain ⟨g, cap, hv, bv, rfl, hg, hgl, hn, hcm, hc0, hc1, hc2, hbh, hbb, hfz, hr⟩ := hlv.at_ (i := 0) (x := x) rfl
  have hq0 := h.c0
  have hlen : (x :: l).length = l.length + 1 := rfl
  rw [hlen] at hcv HL hn
  have hlf := hlv.few
  rw [hlen] at hlf
  simp only [Nat.zero_mul, Nat.zero_add] at hc0 hc1 hc2
  have H1 : Hid (∀ W, Frm NoS w W → BytesIn (fun k => tg k = 3) W hv x.h) := fun W hf => hbh.frm hf (fun _ _ _ h => h)
  have H2 : Hid (∀ W, Frm NoS w W → BytesIn (fun k => tg k = 3) W bv x.b) := fun W hf => hbb.frm hf (fun _ _ _ h => h)
  obtain ⟨A, c, rfl, _⟩ := hbh
  obtain ⟨A', c', rfl, _⟩ := hbb
  have hT := h.T1
  clear h hlv hm hmt hfz hr hlen hg
  generalize l.length = n at *
  have hqlt : q < w.heap.size := World.block_lt_of_cell? w _ hq0
  have hblt : bl < w.heap.size := World.block_lt_of_cell? w _ hcv
  obtain ⟨⟨hne, hne1, hne2, hne3, hne4, hne5⟩, hlt1, hlt2, hlt3, hlt4, hlt5⟩ := ne_new hqlt
  obtain ⟨⟨hbe, hbe1, hbe2, hbe3, hbe4, hbe5⟩, hbt1, hbt2, hbt3, hbt4, hbt5⟩ := ne_new hblt
  obtain ⟨⟨hge, hge1, hge2, hge3, hge4, hge5⟩, hgt1, hgt2, hgt3, hgt4, hgt5⟩ := ne_new hgl
  have HF : Hid (Frm NoS w (w.alloc (.cells #[.int .i64 0, .slice none 0 0, .slice none 0 0] 57))) := Frm.alloc (Frm.refl _ _) _
  have hr0 : (w.alloc (.cells #[.int .i64 0, .slice none 0 0, .slice none 0 0] 57)).cell? ⟨w.heap.size, 0, none⟩ = some (.int .i64 0) := World.cell?_alloc_at _ _ _ _ rfl
  have hr1 : (w.alloc (.cells #[.int .i64 0, .slice none 0 0, .slice none 0 0] 57)).cell? ⟨w.heap.size, 1, none⟩ = some (.slice none 0 0) := World.cell?_alloc_at _ _ _ _ rfl
  have hr2 : (w.alloc (.cells #[.int .i64 0, .slice none 0 0, .slice none 0 0] 57)).cell? ⟨w.heap.size, 2, none⟩ = some (.slice none 0 0) := World.cell?_alloc_at _ _ _ _ rfl
  have hrf : Hid (∀ j, (w.alloc (.cells #[.int .i64 0, .slice none 0 0, .slice none 0 0] 57)).frozen? ⟨w.heap.size, j, none⟩ = false) := fun j => World.frozen?_alloc_at _ _ _ _ rfl
  have HR := Lib.hid (And.intro hr0 (And.intro hr1 hr2))
  have hrz : Hid (w.heap.size + 1 = (w.alloc (.cells #[.int .i64 0, .slice none 0 0, .slice none 0 0] 57)).heap.size) := by unfold Hid; simp
  clear hr0 hr1 hr2
  go_enter Try.func35, Try.ntmps35
  go_wp2_with (first | (go_at_call 39; refine HL.out.mono ?_; rintro r w' ⟨rfl, rfl⟩; clear HL) | (go_at_call 74; refine (own_any (ok := fun k => tg k = 3) x _ (H1.out _ HF.out) (H2.out _ HF.out)).mono ?_; rintro r w5 ⟨hv5, bv5, rfl, hit, ⟨A5, c5, rfl⟩, ⟨A6, c6, rfl⟩, hbl5, fr5, fr6⟩; have FR5 := Lib.hid fr5; have FR6 := Lib.hid fr6; clear fr5 fr6; have k0 := (Frm.of_below (S := NoS) hbl5).keep HR.out.1 (fun h => h); have k1 := (Frm.of_below (S := NoS) hbl5).keep HR.out.2.1 (fun h => h); have k2 := (Frm.of_below (S := NoS) hbl5).keep HR.out.2.2 (fun h => h); have f0 := (Frm.of_below (S := NoS) hbl5).keepf HR.out.1 (hrf.out 0) (j := 0) (fun h => h); have f1 := (Frm.of_below (S := NoS) hbl5).keepf HR.out.2.1 (hrf.out 1) (j := 0) (fun h => h); have f2 := (Frm.of_below (S := NoS) hbl5).keepf HR.out.2.2 (hrf.out 2) (j := 0) (fun h => h); have L5 := Lib.hid hbl5; have Q5 := Lib.hid hit; clear hit hbl5 H1 H2))
  refine bodyPost_ret (v := .tuple #[.agg #[.int .i64 x.num, .slice A5 x.h.length c5, .slice A6 x.b.length c6], .int .i64 0]) (by simp [results, Try.results35, go_sem, k0, k1, k2]) rfl ?_
  have hz := hrz.out
  have hz5 := L5.out.size
  have hfin : Frm (ItemS w.heap.size) w5 (((w5.setCell ⟨w.heap.size, 0, none⟩ (.int .i64 x.num)).setCell ⟨w.heap.size, 1, none⟩ (.slice A5 x.h.length c5)).setCell ⟨w.heap.size, 2, none⟩ (.slice A6 x.b.length c6)) :=
    (((Frm.refl _ _).set_old (p := ⟨w.heap.size, 0, none⟩) ⟨rfl, by simp⟩ _).set_old (p := ⟨w.heap.size, 1, none⟩) ⟨rfl, by simp⟩ _).set_old (p := ⟨w.heap.size, 2, none⟩) ⟨rfl, by simp⟩ _
  refine ⟨_, _, rfl, ?_, ⟨_, _, rfl⟩, ⟨_, _, rfl⟩, ?_, ?_, ?_⟩
  · exact (Q5.out.frm hfin (fun k j hk hS => by have := hS.1; omega)).mono (fun k _ hk => ⟨by omega, by simp; omega⟩)
  · exact ((HF.out.then_ ((Frm.of_below (S := ItemS w.heap.size) L5.out).trans hfin) (fun b _ hb hS => by have := hS.1; omega))).no
  · exact (FR5.out.frm hfin (fun k hk _ j hS => by have := hS.1; omega)).mono (by omega)
  · exact (FR6.out.frm hfin (fun k hk _ j hS => by have := hS.1; omega)).mono (by omega)
end Go.Proofs.Ytpihldeikdiniaa
