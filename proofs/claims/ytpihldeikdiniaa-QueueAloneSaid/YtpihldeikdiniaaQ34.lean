/- Package squintlaw18: one, of a call of First. -/
import Derived.Test.YtpihldeikdiniaaQ33
namespace Go.Proofs.Ytpihldeikdiniaa
open Go.RowKit
set_option linter.unusedVariables false
set_option linter.unusedSimpArgs false
set_option maxRecDepth 100000 in
set_option maxHeartbeats 6400000 in
theorem one_first {tg : Nat → Nat} {ok okb : Nat → Prop} {q bl T : Nat} {B I : Int} {m : Nat → List QI} {v hv bv zv : Value} (t : Int) (n : Int) (x : QI) (w : World) (h : QRep tg w q bl T B I m) (hr : RefIn ok w v (m t.toNat)) (hok : ∀ k, ok k → tg k = 0) (hh : BytesIn okb w hv x.h) (hb : BytesIn okb w bv x.b) (h0 : 0 ≤ t) (h1 : t < T) (hli : ((m t.toNat).length : Int) ≤ I) (x0 : QI) (r : List QI) (hm : m t.toNat = x0 :: r) :
    Calls Try.prog 44 #[.pointer (some ⟨q, 0, none⟩), v, .agg #[.int .i64 (T : Int), .int .i64 B, .int .i64 I, zv], .agg #[.int .i64 2, .int .i64 t, .int .i64 n, .int .i64 x.num, hv, bv]] w (OnePost tg ok w q bl T B I m t.toNat (m t.toNat)) := by
  have hlen : (m t.toNat).length = r.length + 1 := by rw [hm]; rfl
  have H1 : Hid (∀ W, Frm NoS w W → BytesIn okb W hv x.h) := fun W hf => hh.frm hf (fun _ _ _ h => h)
  have H2 : Hid (∀ W, Frm NoS w W → BytesIn okb W bv x.b) := fun W hf => hb.frm hf (fun _ _ _ h => h)
  have HR : Hid (∀ W, Frm NoS w W → RefIn ok W v (m t.toNat)) := fun W hf => hr.frm hf (fun _ _ _ h => h)
  have HQ := Lib.hid h
  have HQF : Hid (∀ W, Frm NoS w W → QRep tg W q bl T B I m) := fun W hf => h.frm hf (fun _ _ _ h => h)
  have HSAME : Hid (∀ W, Frm NoS w W → OnePost tg ok w q bl T B I m t.toNat (m t.toNat) (.returned (.tuple #[v, .bool true])) W) := fun W hf => OnePost.same h hr hok hli hf
  have hB := h.B1
  have hI := h.I1
  have HOK := Lib.hid hok
  have hmat : mAt m T t = m t.toNat := by simp [mAt, h0, h1]
  have HLF : Hid (∀ s, s < T → (m s).length ≤ 4096 ∧ qbytes (m s) ≤ B) := fun s hs => by
    obtain ⟨_, _, _, hl⟩ := h.line s hs
    exact ⟨hl.few, h.lim s hs⟩
  obtain ⟨A, c, rfl, _, _, hb1, _⟩ := hh
  obtain ⟨A', c', rfl, _, _, hb2, _⟩ := hb
  obtain ⟨Av, cv, rfl, _⟩ := id hr
  clear hok h hr
  simp only [hlen] at HR HSAME ⊢
  obtain ⟨W1, hW1⟩ : ∃ W1, W1 = (w.alloc (.cells #[.int .i64 (T : Int), .int .i64 B, .int .i64 I, zv] 71)).alloc (.cells #[.int .i64 2, .int .i64 t, .int .i64 n, .int .i64 x.num, .slice A x.h.length c, .slice A' x.b.length c'] 76) := ⟨_, rfl⟩
  have hF1 : Frm NoS w W1 := by rw [hW1]; exact Frm.alloc (Frm.alloc (Frm.refl _ _) _) _
  have z0 : W1.cell? ⟨w.heap.size, 0, none⟩ = some (.int .i64 (T : Int)) := by rw [hW1, World.cell?_alloc_lt _ _ _ (by simp)]; exact World.cell?_alloc_at _ _ _ _ rfl
  have z1 : W1.cell? ⟨w.heap.size, 1, none⟩ = some (.int .i64 B) := by rw [hW1, World.cell?_alloc_lt _ _ _ (by simp)]; exact World.cell?_alloc_at _ _ _ _ rfl
  have z2 : W1.cell? ⟨w.heap.size, 2, none⟩ = some (.int .i64 I) := by rw [hW1, World.cell?_alloc_lt _ _ _ (by simp)]; exact World.cell?_alloc_at _ _ _ _ rfl
  have z3 : W1.cell? ⟨w.heap.size, 3, none⟩ = some (zv) := by rw [hW1, World.cell?_alloc_lt _ _ _ (by simp)]; exact World.cell?_alloc_at _ _ _ _ rfl
  have o0 : W1.cell? ⟨w.heap.size + 1, 0, none⟩ = some (.int .i64 2) := by rw [hW1]; exact World.cell?_alloc_at _ _ _ _ (by simp)
  have o1 : W1.cell? ⟨w.heap.size + 1, 1, none⟩ = some (.int .i64 t) := by rw [hW1]; exact World.cell?_alloc_at _ _ _ _ (by simp)
  have o2 : W1.cell? ⟨w.heap.size + 1, 2, none⟩ = some (.int .i64 n) := by rw [hW1]; exact World.cell?_alloc_at _ _ _ _ (by simp)
  have o3 : W1.cell? ⟨w.heap.size + 1, 3, none⟩ = some (.int .i64 x.num) := by rw [hW1]; exact World.cell?_alloc_at _ _ _ _ (by simp)
  have o4 : W1.cell? ⟨w.heap.size + 1, 4, none⟩ = some (.slice A x.h.length c) := by rw [hW1]; exact World.cell?_alloc_at _ _ _ _ (by simp)
  have o5 : W1.cell? ⟨w.heap.size + 1, 5, none⟩ = some (.slice A' x.b.length c') := by rw [hW1]; exact World.cell?_alloc_at _ _ _ _ (by simp)
  have HF1 := Lib.hid hF1
  clear hF1
  have hrf := HR.out W1 HF1.out
  rw [hm] at hrf
  obtain ⟨_, hcv, rb, ro, rfl, hokb, l0, l1, l2⟩ := hrf.first
  have HOKB := Lib.hid (HOK.out rb hokb)
  have HOKR := Lib.hid hokb
  have HRF := Lib.hid hrf
  rw [hm] at hmat
  have HM := Lib.hid hmat
  have HHM := Lib.hid hm
  have HRL : Hid ((r.length : Int) + 1 ≤ I) := by unfold Hid; omega
  have HSB : Hid (x0.h.length + x0.b.length ≤ 1048576) := by
    have h3 := (HLF.out t.toNat (by omega)).2
    rw [hm] at h3
    have h2 := qbytes_nn r
    have h4 : qbytes (x0 :: r) = x0.size + qbytes r := rfl
    unfold Hid
    unfold QI.size at h4
    omega
  have HRF4 : Hid (r.length + 1 ≤ 4096) := by
    have h3 := (HLF.out t.toNat (by omega)).1
    rw [hm] at h3
    exact h3
  clear hrf hmat hokb hm hlen hli
  go_enter Try.func44, Try.ntmps44
  go_wp2_with fail
  rw [← hW1]
  clear hW1
  have HFI := Lib.hid (first_yes t x0 r _ (HQF.out _ HF1.out) HM.out)
  refine HFI.out.mono ?_
  rintro rr w12 ⟨hv5, bv5, rfl, ⟨hv6, bv6, he, hi1, hi2⟩, ⟨A5, c5, rfl⟩, ⟨A6, c6, rfl⟩, hb12, hfr1, hfr2⟩
  simp only [List.cons.injEq, and_true, true_and] at he
  obtain ⟨rfl, rfl⟩ := he
  have hF12 : Frm NoS W1 w12 := Frm.of_below hb12
  have hne1 : w.heap.size + 1 < W1.heap.size := World.block_lt_of_cell? W1 _ o1
  have hneb : rb < W1.heap.size := World.block_lt_of_cell? W1 _ l0
  have o1 := hF12.keep o1 (fun h => h)
  have l0 := hF12.keep l0 (fun h => h)
  have l1 := hF12.keep l1 (fun h => h)
  have l2 := hF12.keep l2 (fun h => h)
  obtain ⟨W13, hW13⟩ : ∃ W13, W13 = w12.alloc (.cells #[.int .i64 x0.num, .slice A5 x0.h.length c5, .slice A6 x0.b.length c6] 57) := ⟨_, rfl⟩
  have hF13 : Frm NoS w12 W13 := by rw [hW13]; exact Frm.alloc (Frm.refl _ _) _
  have y2 : W13.cell? ⟨w12.heap.size, 2, none⟩ = some (.slice A6 x0.b.length c6) := by rw [hW13]; exact World.cell?_alloc_at _ _ _ _ rfl
  have o1 := hF13.keep o1 (fun h => h)
  have l0 := hF13.keep l0 (fun h => h)
  have l1 := hF13.keep l1 (fun h => h)
  have l2 := hF13.keep l2 (fun h => h)
  have HI2 := Lib.hid (hi2.frm hF13 (fun _ _ _ h => h))
  have HFR := Lib.hid (hfr2.frm hF13 (fun _ _ _ _ h => h))
  have HF13 := Lib.hid (HF1.out.trans (hF12.trans hF13))
  have HZ := Lib.hid (And.intro hF12.size hF13.size)
  have hsmall : x0.b.length ≤ 1048576 := by have := HSB.out; omega
  clear hi1 hi2 hfr1 hfr2 hb12 hF12 hF13 z0 z1 z2 z3 o0 o2 o3 o4 o5 HFI
  go_wp2_with fail
  rw [← hW13]
  clear hW13
  go_wp2_with fail
  go_loopw [138] (fun i wr => IncRel2 (fun k => W1.heap.size ≤ k ∧ k < w12.heap.size) W13 A6 x0.b.length c6 i wr) (fun i _ => x0.b.length - (intOf i).toNat)
  case atStart => exact ⟨0, Nat.zero_le _, rfl, ⟨x0.b, rfl, HI2.out⟩, Frm.refl _ _⟩
  case round =>
    obtain ⟨k, hk, rfl, ⟨l, hl0, hl⟩, hf⟩ := hrel
    by_cases hlt : k < x0.b.length
    · obtain ⟨b, o, y, rfl, hok2, hc⟩ := hl.byte hlt
      obtain ⟨hb0, hbz, hbf⟩ := HFR.out b rfl
      have hfz2 : wr.frozen? ⟨b, o + k, none⟩ = false := (hf.frozen (p := ⟨b, o + k, none⟩) hbz (j := o + x0.b.length) (fun hS => by obtain ⟨o', he, h1, h2⟩ := hS; (simp at he) <;> omega)).trans (hbf _)
      have hbne : ¬ b = w12.heap.size := Nat.ne_of_lt hok2.2
      have HL := Lib.hid (And.intro hl0 hl)
      have HF := Lib.hid hf
      have z2 := hf.keep y2 (fun hS => by obtain ⟨o', he, _⟩ := hS; (simp at he) <;> exact hbne he.1)
      clear hl hf hl0 hbf hok2
      go_wp2_with fail
      go_roundw
      case measure => simp [intOf]; omega
      case rel => exact IncRel2.step HL.out.1 HL.out.2 HF.out hlt
    · obtain rfl : k = x0.b.length := by omega
      have hne9 : ∀ b j, SlcS A6 x0.b.length b j → W1.heap.size ≤ b := fun b j hS => by
        obtain ⟨o', rfl, h1, h2⟩ := hS
        obtain ⟨b', o, y, he, hok, _⟩ := HI2.out.byte (k := 0) (by omega)
        simp only [Option.some.injEq, Addr.mk.injEq, and_true] at he
        obtain ⟨rfl, rfl⟩ := he
        exact hok.1
      obtain ⟨w14, rfl⟩ : ∃ w14 : World, w14 = wr := ⟨_, rfl⟩
      have hz01 := HF1.out.size
      have h114 : Frm NoS w w14 := HF13.out.then_ hf (fun b j hb hS => by have := hne9 b j hS; omega)
      have HF14 := Lib.hid h114
      have o1 := hf.keep o1 (fun hS => by have := hne9 _ _ hS; dsimp only at this; omega)
      have l0 := hf.keep l0 (fun hS => by have := hne9 _ _ hS; dsimp only at this; omega)
      have l1 := hf.keep l1 (fun hS => by have := hne9 _ _ hS; dsimp only at this; omega)
      have l2 := hf.keep l2 (fun hS => by have := hne9 _ _ hS; dsimp only at this; omega)
      have HFI := Lib.hid (first_yes t x0 r _ (HQF.out _ h114) HM.out)
      clear hl hf hl0 h114 hne9 y2 HI2 HFR
      go_wp2_with fail
      refine HFI.out.mono ?_
      rintro rr w15 ⟨hv5, bv5, rfl, ⟨hv6, bv6, he, hi1, hi2⟩, ⟨A5, c5, rfl⟩, ⟨A6, c6, rfl⟩, hb15, -, -⟩
      simp only [List.cons.injEq, and_true, true_and] at he
      obtain ⟨rfl, rfl⟩ := he
      have hF15 : Frm NoS w14 w15 := Frm.of_below hb15
      obtain ⟨W16, hW16⟩ : ∃ W16, W16 = w15.alloc (.cells #[.int .i64 x0.num, .slice A5 x0.h.length c5, .slice A6 x0.b.length c6] 57) := ⟨_, rfl⟩
      have hF16 : Frm NoS w15 W16 := by rw [hW16]; exact Frm.alloc (Frm.refl _ _) _
      have y0 : W16.cell? ⟨w15.heap.size, 0, none⟩ = some (.int .i64 x0.num) := by rw [hW16]; exact World.cell?_alloc_at _ _ _ _ rfl
      have y1 : W16.cell? ⟨w15.heap.size, 1, none⟩ = some (.slice A5 x0.h.length c5) := by rw [hW16]; exact World.cell?_alloc_at _ _ _ _ rfl
      have y2 : W16.cell? ⟨w15.heap.size, 2, none⟩ = some (.slice A6 x0.b.length c6) := by rw [hW16]; exact World.cell?_alloc_at _ _ _ _ rfl
      have l0 := hF16.keep (hF15.keep l0 (fun h => h)) (fun h => h)
      have l1 := hF16.keep (hF15.keep l1 (fun h => h)) (fun h => h)
      have l2 := hF16.keep (hF15.keep l2 (fun h => h)) (fun h => h)
      have HJ1 : Hid (∀ W, Frm NoS W16 W → BytesIn _ W (.slice A5 x0.h.length c5) x0.h) := fun W hf => hi1.frm (hF16.trans hf) (fun _ _ _ h => h)
      have HJ2 : Hid (∀ W, Frm NoS W16 W → BytesIn _ W (.slice A6 x0.b.length c6) x0.b) := fun W hf => hi2.frm (hF16.trans hf) (fun _ _ _ h => h)
      have HF16 := Lib.hid (HF14.out.trans (hF15.trans hF16))
      clear hi1 hi2 hb15 hF15 hF16 HFI o1
      go_wp2_with fail
      rw [← hW16]
      clear hW16
      have K16 : Hid (∀ w', Frm NoS W16 w' → w'.cell? ⟨w15.heap.size, 0, none⟩ = some (.int .i64 x0.num) ∧ w'.cell? ⟨w15.heap.size, 1, none⟩ = some (.slice A5 x0.h.length c5) ∧ w'.cell? ⟨w15.heap.size, 2, none⟩ = some (.slice A6 x0.b.length c6) ∧ w'.cell? ⟨rb, ro, none⟩ = some (.int .i64 x0.num) ∧ w'.cell? ⟨rb, ro + 1, none⟩ = some (.string ⟨x0.h.toArray⟩) ∧ w'.cell? ⟨rb, ro + 2, none⟩ = some (.string ⟨x0.b.toArray⟩) ∧ Frm NoS W16 w') := fun w' hf => ⟨hf.keep y0 (fun h => h), hf.keep y1 (fun h => h), hf.keep y2 (fun h => h), hf.keep l0 (fun h => h), hf.keep l1 (fun h => h), hf.keep l2 (fun h => h), hf⟩
      go_region_held3 (fun w' => w'.cell? ⟨w15.heap.size, 0, none⟩ = some (.int .i64 x0.num) ∧ w'.cell? ⟨w15.heap.size, 1, none⟩ = some (.slice A5 x0.h.length c5) ∧ w'.cell? ⟨w15.heap.size, 2, none⟩ = some (.slice A6 x0.b.length c6) ∧ w'.cell? ⟨rb, ro, none⟩ = some (.int .i64 x0.num) ∧ w'.cell? ⟨rb, ro + 1, none⟩ = some (.string ⟨x0.h.toArray⟩) ∧ w'.cell? ⟨rb, ro + 2, none⟩ = some (.string ⟨x0.b.toArray⟩) ∧ Frm NoS W16 w') ((refine K16.out _ ?_; first | exact (Frm.refl NoS W16).drew | exact (((Frm.refl NoS W16).alloc _).alloc _).drew)) (first | (go_at_call 33; have hS := ‹_ ∧ _ ∧ _ ∧ _ ∧ _ ∧ _ ∧ Frm NoS W16 _›.2.2.2.2.2.2; refine (ref_any x0 _ (HJ1.out _ hS) (HJ2.out _ hS)).mono ?_; clear hS; rintro rr w17 ⟨rfl, rfl⟩; unfold refV))
      have HN := Lib.hid ‹_ ∧ _ ∧ _ ∧ _ ∧ _ ∧ _ ∧ Frm NoS W16 _›.2.2.2.2.2.2
      go_wp2_with fail
      go_ret2
      exact HSAME.out _ (HF16.out.trans HN.out)
end Go.Proofs.Ytpihldeikdiniaa
