/- Package squintlaw18: one, of calls that tell. -/
import Derived.Test.YtpihldeikdiniaaQ31
namespace Go.Proofs.Ytpihldeikdiniaa
open Go.RowKit
set_option linter.unusedVariables false
set_option linter.unusedSimpArgs false
set_option maxRecDepth 100000 in
set_option maxHeartbeats 6400000 in
theorem one_none {tg : Nat → Nat} {ok okb : Nat → Prop} {q bl T : Nat} {B I : Int} {m : Nat → List QI} {v hv bv zv : Value} (kind t : Int) (n : Int) (x : QI) (w : World) (h : QRep tg w q bl T B I m) (hr : RefIn ok w v (m t.toNat)) (hok : ∀ k, ok k → tg k = 0) (hh : BytesIn okb w hv x.h) (hb : BytesIn okb w bv x.b) (h0 : 0 ≤ t) (h1 : t < T) (hli : ((m t.toNat).length : Int) ≤ I) (hk1 : kind ≠ 1) (hk5 : kind ≠ 5) (hm : m t.toNat = []) :
    Calls Try.prog 44 #[.pointer (some ⟨q, 0, none⟩), v, .agg #[.int .i64 (T : Int), .int .i64 B, .int .i64 I, zv], .agg #[.int .i64 kind, .int .i64 t, .int .i64 n, .int .i64 x.num, hv, bv]] w (OnePost tg ok w q bl T B I m t.toNat (m t.toNat)) := by
  have hkb1 : (kind == 1) = false := by simpa using hk1
  have hkd1 : decide (kind = 1) = false := by simpa using hk1
  have hkb5 : (kind == 5) = false := by simpa using hk5
  have hkd5 : decide (kind = 5) = false := by simpa using hk5
  have hlen : (m t.toNat).length = 0 := by rw [hm]; rfl
  have H1 : Hid (∀ W, Frm NoS w W → BytesIn okb W hv x.h) := fun W hf => hh.frm hf (fun _ _ _ h => h)
  have H2 : Hid (∀ W, Frm NoS w W → BytesIn okb W bv x.b) := fun W hf => hb.frm hf (fun _ _ _ h => h)
  have HR : Hid (∀ W, Frm NoS w W → RefIn ok W v (m t.toNat)) := fun W hf => hr.frm hf (fun _ _ _ h => h)
  have HQ := Lib.hid h
  have HQF : Hid (∀ W, Frm NoS w W → QRep tg W q bl T B I m) := fun W hf => h.frm hf (fun _ _ _ h => h)
  have HSAME : Hid (∀ W, Frm NoS w W → OnePost tg ok w q bl T B I m t.toNat (m t.toNat) (.returned (.tuple #[v, .bool true])) W) := fun W hf => OnePost.same h hr hok hli hf
  have hB := h.B1
  have hI := h.I1
  have HOK := Lib.hid hok
  have hmat : mAt m T t = m t.toNat := by simp [mAt, h0, h1]
  have HLF : Hid (∀ s, s < T → (m s).length ≤ 4096 ∧ qbytes (m s) ≤ B) := fun s hs => by
    obtain ⟨_, _, _, hl⟩ := h.line s hs
    exact ⟨hl.few, h.lim s hs⟩
  obtain ⟨A, c, rfl, _, _, hb1, _⟩ := hh
  obtain ⟨A', c', rfl, _, _, hb2, _⟩ := hb
  obtain ⟨Av, cv, rfl, _⟩ := id hr
  clear hok h hr
  simp only [hlen] at HR HSAME ⊢
  obtain ⟨W1, hW1⟩ : ∃ W1, W1 = (w.alloc (.cells #[.int .i64 (T : Int), .int .i64 B, .int .i64 I, zv] 71)).alloc (.cells #[.int .i64 kind, .int .i64 t, .int .i64 n, .int .i64 x.num, .slice A x.h.length c, .slice A' x.b.length c'] 76) := ⟨_, rfl⟩
  have hF1 : Frm NoS w W1 := by rw [hW1]; exact Frm.alloc (Frm.alloc (Frm.refl _ _) _) _
  have z0 : W1.cell? ⟨w.heap.size, 0, none⟩ = some (.int .i64 (T : Int)) := by rw [hW1, World.cell?_alloc_lt _ _ _ (by simp)]; exact World.cell?_alloc_at _ _ _ _ rfl
  have z1 : W1.cell? ⟨w.heap.size, 1, none⟩ = some (.int .i64 B) := by rw [hW1, World.cell?_alloc_lt _ _ _ (by simp)]; exact World.cell?_alloc_at _ _ _ _ rfl
  have z2 : W1.cell? ⟨w.heap.size, 2, none⟩ = some (.int .i64 I) := by rw [hW1, World.cell?_alloc_lt _ _ _ (by simp)]; exact World.cell?_alloc_at _ _ _ _ rfl
  have z3 : W1.cell? ⟨w.heap.size, 3, none⟩ = some (zv) := by rw [hW1, World.cell?_alloc_lt _ _ _ (by simp)]; exact World.cell?_alloc_at _ _ _ _ rfl
  have o0 : W1.cell? ⟨w.heap.size + 1, 0, none⟩ = some (.int .i64 kind) := by rw [hW1]; exact World.cell?_alloc_at _ _ _ _ (by simp)
  have o1 : W1.cell? ⟨w.heap.size + 1, 1, none⟩ = some (.int .i64 t) := by rw [hW1]; exact World.cell?_alloc_at _ _ _ _ (by simp)
  have o2 : W1.cell? ⟨w.heap.size + 1, 2, none⟩ = some (.int .i64 n) := by rw [hW1]; exact World.cell?_alloc_at _ _ _ _ (by simp)
  have o3 : W1.cell? ⟨w.heap.size + 1, 3, none⟩ = some (.int .i64 x.num) := by rw [hW1]; exact World.cell?_alloc_at _ _ _ _ (by simp)
  have o4 : W1.cell? ⟨w.heap.size + 1, 4, none⟩ = some (.slice A x.h.length c) := by rw [hW1]; exact World.cell?_alloc_at _ _ _ _ (by simp)
  have o5 : W1.cell? ⟨w.heap.size + 1, 5, none⟩ = some (.slice A' x.b.length c') := by rw [hW1]; exact World.cell?_alloc_at _ _ _ _ (by simp)
  have HF1 := Lib.hid hF1
  clear hF1
  rw [hm] at hmat
  have HM := Lib.hid hmat
  have HHM := Lib.hid hm
  clear hmat hm hlen hk1 hk5 hli
  go_enter Try.func44, Try.ntmps44
  go_wp2_with fail
  rw [← hW1]
  clear hW1
  have KEEP : Hid (∀ w', Frm NoS W1 w' → w'.cell? ⟨w.heap.size, 0, none⟩ = some (.int .i64 (T : Int)) ∧ w'.cell? ⟨w.heap.size, 1, none⟩ = some (.int .i64 B) ∧ w'.cell? ⟨w.heap.size, 2, none⟩ = some (.int .i64 I) ∧ w'.cell? ⟨w.heap.size, 3, none⟩ = some (zv) ∧ w'.cell? ⟨w.heap.size + 1, 0, none⟩ = some (.int .i64 kind) ∧ w'.cell? ⟨w.heap.size + 1, 1, none⟩ = some (.int .i64 t) ∧ w'.cell? ⟨w.heap.size + 1, 2, none⟩ = some (.int .i64 n) ∧ w'.cell? ⟨w.heap.size + 1, 3, none⟩ = some (.int .i64 x.num) ∧ w'.cell? ⟨w.heap.size + 1, 4, none⟩ = some (.slice A x.h.length c) ∧ w'.cell? ⟨w.heap.size + 1, 5, none⟩ = some (.slice A' x.b.length c') ∧ Frm NoS W1 w') := fun w' hf => ⟨hf.keep z0 (fun h => h), hf.keep z1 (fun h => h), hf.keep z2 (fun h => h), hf.keep z3 (fun h => h), hf.keep o0 (fun h => h), hf.keep o1 (fun h => h), hf.keep o2 (fun h => h), hf.keep o3 (fun h => h), hf.keep o4 (fun h => h), hf.keep o5 (fun h => h), hf⟩
  refine (first_none t _ (HQF.out _ HF1.out) HM.out).mono ?_
  rintro r w12 ⟨rfl, hb12⟩
  have hN5 := KEEP.out _ (Frm.of_below hb12)
  clear hb12
  clear z0 z1 z2 z3 o0 o1 o2 o3 o4 o5
  obtain ⟨z0, z1, z2, z3, o0, o1, o2, o3, o4, o5, hF12⟩ := hN5
  have HF12 := Lib.hid (HF1.out.trans hF12)
  have HFW := Lib.hid hF12
  clear hF12
  have hlw : w.heap.size + 1 < w12.heap.size := World.block_lt_of_cell? w12 _ o1
  obtain ⟨⟨mne, mne1, mne2, mne3, mne4, mne5⟩, mlt1, mlt2, mlt3, mlt4, mlt5⟩ := ne_new hlw
  go_wp2_with fail
  obtain ⟨W13, hW13⟩ : ∃ W13, W13 = w12.alloc (.cells #[.int .i64 0, .slice none 0 0, .slice none 0 0] 57) := ⟨_, rfl⟩
  rw [← hW13]
  have hF13 : Frm NoS w12 W13 := by rw [hW13]; exact Frm.alloc (Frm.refl _ _) _
  have y0 : W13.cell? ⟨w12.heap.size, 0, none⟩ = some (.int .i64 0) := by rw [hW13]; exact World.cell?_alloc_at _ _ _ _ rfl
  have y1 : W13.cell? ⟨w12.heap.size, 1, none⟩ = some (.slice none 0 0) := by rw [hW13]; exact World.cell?_alloc_at _ _ _ _ rfl
  have y2 : W13.cell? ⟨w12.heap.size, 2, none⟩ = some (.slice none 0 0) := by rw [hW13]; exact World.cell?_alloc_at _ _ _ _ rfl
  have o1 := hF13.keep o1 (fun h => h)
  have HF13 := Lib.hid (HF12.out.trans hF13)
  clear hW13 hF13
  refine (cut_none t 0 _ (HQF.out _ HF13.out) HM.out).mono ?_
  rintro r w14 ⟨rfl, rfl⟩
  go_wp2_with fail
  refine (pop_none t _ (HQF.out _ HF13.out) HM.out).mono ?_
  rintro r w15 ⟨rfl, hb15⟩
  have hF15 := Frm.of_below (S := NoS) hb15
  have y0 := hF15.keep y0 (fun h => h)
  have y1 := hF15.keep y1 (fun h => h)
  have y2 := hF15.keep y2 (fun h => h)
  have HF15 := Lib.hid (HF13.out.trans hF15)
  clear hb15 hF15
  go_wp2_with fail
  obtain ⟨W16, hW16⟩ : ∃ W16, W16 = w15.alloc (.cells #[.int .i64 0, .slice none 0 0, .slice none 0 0] 57) := ⟨_, rfl⟩
  rw [← hW16]
  have hF16 : Frm NoS w15 W16 := by rw [hW16]; exact Frm.alloc (Frm.refl _ _) _
  have y0 := hF16.keep y0 (fun h => h)
  have y1 := hF16.keep y1 (fun h => h)
  have y2 := hF16.keep y2 (fun h => h)
  have HF16 := Lib.hid (HF15.out.trans hF16)
  clear hF16 hW16
  have K2 : Hid (∀ w', Frm NoS W16 w' → w'.cell? ⟨w12.heap.size, 0, none⟩ = some (.int .i64 0) ∧ w'.cell? ⟨w12.heap.size, 1, none⟩ = some (.slice none 0 0) ∧ w'.cell? ⟨w12.heap.size, 2, none⟩ = some (.slice none 0 0) ∧ Frm NoS W16 w') := fun w' hf => ⟨hf.keep y0 (fun h => h), hf.keep y1 (fun h => h), hf.keep y2 (fun h => h), hf⟩
  go_region_held3 (fun w' => w'.cell? ⟨w12.heap.size, 0, none⟩ = some (.int .i64 0) ∧ w'.cell? ⟨w12.heap.size, 1, none⟩ = some (.slice none 0 0) ∧ w'.cell? ⟨w12.heap.size, 2, none⟩ = some (.slice none 0 0) ∧ Frm NoS W16 w') ((refine K2.out _ ?_; first | exact (Frm.refl NoS W16).drew | exact (((Frm.refl NoS W16).alloc _).alloc _).drew)) (first | (go_at_call 33; refine (ref_any ⟨0, [], []⟩ _ (BytesIn.nil_ _) (BytesIn.nil_ _)).mono ?_; rintro r w11 ⟨rfl, rfl⟩; unfold refV))
  have hS := ‹_ ∧ _ ∧ _ ∧ Frm NoS W16 _›.2.2.2
  have HF17 := Lib.hid (HF16.out.trans hS)
  clear hS
  go_wp2_with fail
  go_ret2
  exact HSAME.out _ HF17.out
theorem RefIn.first {ok : Nat → Prop} {w : World} {A : Option Addr} {n c : Nat} {x : QI} {l : List QI} (h : RefIn ok w (.slice A n c) (x :: l)) : n = l.length + 1 ∧ n ≤ c ∧ ∃ b o, A = some ⟨b, o, none⟩ ∧ ok b ∧ w.cell? ⟨b, o, none⟩ = some (.int .i64 x.num) ∧ w.cell? ⟨b, o + 1, none⟩ = some (.string ⟨x.h.toArray⟩) ∧ w.cell? ⟨b, o + 2, none⟩ = some (.string ⟨x.b.toArray⟩) := by
  obtain ⟨A', c', he, hl, hm, hb, hc⟩ := h
  simp only [Value.slice.injEq] at he
  obtain ⟨rfl, rfl, rfl⟩ := he
  obtain ⟨b, o, rfl, hok, hcell⟩ := hc (by simp)
  obtain ⟨g0, g1, g2⟩ := hcell 0 x rfl
  simp only [Nat.zero_mul, Nat.add_zero] at g0 g1 g2
  exact ⟨by simp, hl, b, o, rfl, hok, g0, g1, g2⟩
theorem RefIn.tail {ok : Nat → Prop} {w : World} {b o n c : Nat} {x : QI} {l : List QI} (h : RefIn ok w (.slice (some ⟨b, o, none⟩) n c) (x :: l)) (A' : Option Addr) (hA : 0 < l.length → A' = some ⟨b, o + 3, none⟩) : RefIn ok w (.slice A' l.length (c - 1)) l := by
  obtain ⟨A2, c', he, hl, hm, hb, hc⟩ := h
  simp only [Value.slice.injEq] at he
  obtain ⟨rfl, rfl, rfl⟩ := he
  simp only [List.length_cons] at hl hb
  refine ⟨A', c - 1, rfl, by omega, by omega, by omega, fun h0 => ?_⟩
  obtain ⟨b', o', he, hok, hcell⟩ := hc (by simp)
  simp only [Option.some.injEq, Addr.mk.injEq, and_true] at he
  obtain ⟨rfl, rfl⟩ := he
  refine ⟨b, o + 3, hA h0, hok, fun i y hi => ?_⟩
  obtain ⟨g0, g1, g2⟩ := hcell (i + 1) y (by simpa using hi)
  rw [show o + (i + 1) * 3 = o + 3 + i * 3 from by omega] at g0 g1 g2
  exact ⟨g0, g1, g2⟩
set_option maxRecDepth 100000 in
set_option maxHeartbeats 6400000 in
theorem one_other {tg : Nat → Nat} {ok okb : Nat → Prop} {q bl T : Nat} {B I : Int} {m : Nat → List QI} {v hv bv zv : Value} (kind t : Int) (n : Int) (x : QI) (w : World) (h : QRep tg w q bl T B I m) (hr : RefIn ok w v (m t.toNat)) (hok : ∀ k, ok k → tg k = 0) (hh : BytesIn okb w hv x.h) (hb : BytesIn okb w bv x.b) (h0 : 0 ≤ t) (h1 : t < T) (hli : ((m t.toNat).length : Int) ≤ I) (hk1 : kind ≠ 1) (hk5 : kind ≠ 5) (hk2 : kind ≠ 2) (hk3 : kind ≠ 3) (hk4 : kind ≠ 4) (x0 : QI) (r : List QI) (hm : m t.toNat = x0 :: r) :
    Calls Try.prog 44 #[.pointer (some ⟨q, 0, none⟩), v, .agg #[.int .i64 (T : Int), .int .i64 B, .int .i64 I, zv], .agg #[.int .i64 kind, .int .i64 t, .int .i64 n, .int .i64 x.num, hv, bv]] w (OnePost tg ok w q bl T B I m t.toNat (m t.toNat)) := by
  have hkb1 : (kind == 1) = false := by simpa using hk1
  have hkd1 : decide (kind = 1) = false := by simpa using hk1
  have hkb5 : (kind == 5) = false := by simpa using hk5
  have hkd5 : decide (kind = 5) = false := by simpa using hk5
  have hkb2 : (kind == 2) = false := by simpa using hk2
  have hkd2 : decide (kind = 2) = false := by simpa using hk2
  have hkb3 : (kind == 3) = false := by simpa using hk3
  have hkd3 : decide (kind = 3) = false := by simpa using hk3
  have hkb4 : (kind == 4) = false := by simpa using hk4
  have hkd4 : decide (kind = 4) = false := by simpa using hk4
  have hlen : (m t.toNat).length = r.length + 1 := by rw [hm]; rfl
  have H1 : Hid (∀ W, Frm NoS w W → BytesIn okb W hv x.h) := fun W hf => hh.frm hf (fun _ _ _ h => h)
  have H2 : Hid (∀ W, Frm NoS w W → BytesIn okb W bv x.b) := fun W hf => hb.frm hf (fun _ _ _ h => h)
  have HR : Hid (∀ W, Frm NoS w W → RefIn ok W v (m t.toNat)) := fun W hf => hr.frm hf (fun _ _ _ h => h)
  have HQ := Lib.hid h
  have HQF : Hid (∀ W, Frm NoS w W → QRep tg W q bl T B I m) := fun W hf => h.frm hf (fun _ _ _ h => h)
  have HSAME : Hid (∀ W, Frm NoS w W → OnePost tg ok w q bl T B I m t.toNat (m t.toNat) (.returned (.tuple #[v, .bool true])) W) := fun W hf => OnePost.same h hr hok hli hf
  have hB := h.B1
  have hI := h.I1
  have HOK := Lib.hid hok
  have hmat : mAt m T t = m t.toNat := by simp [mAt, h0, h1]
  have HLF : Hid (∀ s, s < T → (m s).length ≤ 4096 ∧ qbytes (m s) ≤ B) := fun s hs => by
    obtain ⟨_, _, _, hl⟩ := h.line s hs
    exact ⟨hl.few, h.lim s hs⟩
  obtain ⟨A, c, rfl, _, _, hb1, _⟩ := hh
  obtain ⟨A', c', rfl, _, _, hb2, _⟩ := hb
  obtain ⟨Av, cv, rfl, _⟩ := id hr
  clear hok h hr
  simp only [hlen] at HR HSAME ⊢
  obtain ⟨W1, hW1⟩ : ∃ W1, W1 = (w.alloc (.cells #[.int .i64 (T : Int), .int .i64 B, .int .i64 I, zv] 71)).alloc (.cells #[.int .i64 kind, .int .i64 t, .int .i64 n, .int .i64 x.num, .slice A x.h.length c, .slice A' x.b.length c'] 76) := ⟨_, rfl⟩
  have hF1 : Frm NoS w W1 := by rw [hW1]; exact Frm.alloc (Frm.alloc (Frm.refl _ _) _) _
  have z0 : W1.cell? ⟨w.heap.size, 0, none⟩ = some (.int .i64 (T : Int)) := by rw [hW1, World.cell?_alloc_lt _ _ _ (by simp)]; exact World.cell?_alloc_at _ _ _ _ rfl
  have z1 : W1.cell? ⟨w.heap.size, 1, none⟩ = some (.int .i64 B) := by rw [hW1, World.cell?_alloc_lt _ _ _ (by simp)]; exact World.cell?_alloc_at _ _ _ _ rfl
  have z2 : W1.cell? ⟨w.heap.size, 2, none⟩ = some (.int .i64 I) := by rw [hW1, World.cell?_alloc_lt _ _ _ (by simp)]; exact World.cell?_alloc_at _ _ _ _ rfl
  have z3 : W1.cell? ⟨w.heap.size, 3, none⟩ = some (zv) := by rw [hW1, World.cell?_alloc_lt _ _ _ (by simp)]; exact World.cell?_alloc_at _ _ _ _ rfl
  have o0 : W1.cell? ⟨w.heap.size + 1, 0, none⟩ = some (.int .i64 kind) := by rw [hW1]; exact World.cell?_alloc_at _ _ _ _ (by simp)
  have o1 : W1.cell? ⟨w.heap.size + 1, 1, none⟩ = some (.int .i64 t) := by rw [hW1]; exact World.cell?_alloc_at _ _ _ _ (by simp)
  have o2 : W1.cell? ⟨w.heap.size + 1, 2, none⟩ = some (.int .i64 n) := by rw [hW1]; exact World.cell?_alloc_at _ _ _ _ (by simp)
  have o3 : W1.cell? ⟨w.heap.size + 1, 3, none⟩ = some (.int .i64 x.num) := by rw [hW1]; exact World.cell?_alloc_at _ _ _ _ (by simp)
  have o4 : W1.cell? ⟨w.heap.size + 1, 4, none⟩ = some (.slice A x.h.length c) := by rw [hW1]; exact World.cell?_alloc_at _ _ _ _ (by simp)
  have o5 : W1.cell? ⟨w.heap.size + 1, 5, none⟩ = some (.slice A' x.b.length c') := by rw [hW1]; exact World.cell?_alloc_at _ _ _ _ (by simp)
  have HF1 := Lib.hid hF1
  clear hF1
  clear hmat hm hlen hk1 hk5 hk2 hk3 hk4 hli
  go_enter Try.func44, Try.ntmps44
  go_wp2_with fail
  rw [← hW1]
  clear hW1
  go_ret2
  exact HSAME.out _ HF1.out
end Go.Proofs.Ytpihldeikdiniaa
