/- Package squintlaw18: one, of calls on a first item. -/
import Derived.Test.YtpihldeikdiniaaQ32
namespace Go.Proofs.Ytpihldeikdiniaa
open Go.RowKit
set_option linter.unusedVariables false
set_option linter.unusedSimpArgs false
theorem str_take (l : List UInt8) (n : Nat) : (⟨l.toArray⟩ : ByteArray).extract 0 n = ⟨(l.take n).toArray⟩ := by
  apply ByteArray.ext
  rw [ByteArray.data_extract]
  simp
theorem tail_run (b o n c : Nat) (h1 : 1 ≤ n) : ∃ A', (∀ w' : World, (Instr.sliceAt 78 (.slice (some ⟨b, o, none⟩) n c) (some (.int .i64 1)) none none).run Try.prog w' = .ok (.slice A' (n - 1) (c - 1)) w') ∧ (c ≠ 1 → A' = some ⟨b, o + 3, none⟩) := by
  refine ⟨if c = 1 then some ⟨b, o, none⟩ else some ⟨b, o + 3, none⟩, fun w' => ?_, fun h => by rw [if_neg h]⟩
  have hs : (sizeOf (Try.prog.elem 78)).run Try.prog w' = .ok 3 w' := by kernel_rfl
  rw [run_sliceAt_slice _ _ _ _ _ _ (by kernel_rfl), run_slice_l _ _ _ _ _ (by kernel_rfl) _ _ (by omega) (by omega), hs]
  simp only [Result.andThen, sliced]
  by_cases hc : c = 1
  · subst hc; simp
  · simp [hc, Addr.add]
set_option maxRecDepth 100000 in
set_option maxHeartbeats 6400000 in
theorem one_cut_no {tg : Nat → Nat} {ok okb : Nat → Prop} {q bl T : Nat} {B I : Int} {m : Nat → List QI} {v hv bv zv : Value} (t : Int) (n : Int) (x : QI) (w : World) (h : QRep tg w q bl T B I m) (hr : RefIn ok w v (m t.toNat)) (hok : ∀ k, ok k → tg k = 0) (hh : BytesIn okb w hv x.h) (hb : BytesIn okb w bv x.b) (h0 : 0 ≤ t) (h1 : t < T) (hli : ((m t.toNat).length : Int) ≤ I) (x0 : QI) (r : List QI) (hm : m t.toNat = x0 :: r) (hn : n < 0 ∨ (x0.b.length : Int) < n) :
    Calls Try.prog 44 #[.pointer (some ⟨q, 0, none⟩), v, .agg #[.int .i64 (T : Int), .int .i64 B, .int .i64 I, zv], .agg #[.int .i64 3, .int .i64 t, .int .i64 n, .int .i64 x.num, hv, bv]] w (OnePost tg ok w q bl T B I m t.toNat (m t.toNat)) := by
  have hlen : (m t.toNat).length = r.length + 1 := by rw [hm]; rfl
  have H1 : Hid (∀ W, Frm NoS w W → BytesIn okb W hv x.h) := fun W hf => hh.frm hf (fun _ _ _ h => h)
  have H2 : Hid (∀ W, Frm NoS w W → BytesIn okb W bv x.b) := fun W hf => hb.frm hf (fun _ _ _ h => h)
  have HR : Hid (∀ W, Frm NoS w W → RefIn ok W v (m t.toNat)) := fun W hf => hr.frm hf (fun _ _ _ h => h)
  have HQ := Lib.hid h
  have HQF : Hid (∀ W, Frm NoS w W → QRep tg W q bl T B I m) := fun W hf => h.frm hf (fun _ _ _ h => h)
  have HSAME : Hid (∀ W, Frm NoS w W → OnePost tg ok w q bl T B I m t.toNat (m t.toNat) (.returned (.tuple #[v, .bool true])) W) := fun W hf => OnePost.same h hr hok hli hf
  have hB := h.B1
  have hI := h.I1
  have HOK := Lib.hid hok
  have hmat : mAt m T t = m t.toNat := by simp [mAt, h0, h1]
  have HLF : Hid (∀ s, s < T → (m s).length ≤ 4096 ∧ qbytes (m s) ≤ B) := fun s hs => by
    obtain ⟨_, _, _, hl⟩ := h.line s hs
    exact ⟨hl.few, h.lim s hs⟩
  obtain ⟨A, c, rfl, _, _, hb1, _⟩ := hh
  obtain ⟨A', c', rfl, _, _, hb2, _⟩ := hb
  obtain ⟨Av, cv, rfl, _⟩ := id hr
  clear hok h hr
  simp only [hlen] at HR HSAME ⊢
  obtain ⟨W1, hW1⟩ : ∃ W1, W1 = (w.alloc (.cells #[.int .i64 (T : Int), .int .i64 B, .int .i64 I, zv] 71)).alloc (.cells #[.int .i64 3, .int .i64 t, .int .i64 n, .int .i64 x.num, .slice A x.h.length c, .slice A' x.b.length c'] 76) := ⟨_, rfl⟩
  have hF1 : Frm NoS w W1 := by rw [hW1]; exact Frm.alloc (Frm.alloc (Frm.refl _ _) _) _
  have z0 : W1.cell? ⟨w.heap.size, 0, none⟩ = some (.int .i64 (T : Int)) := by rw [hW1, World.cell?_alloc_lt _ _ _ (by simp)]; exact World.cell?_alloc_at _ _ _ _ rfl
  have z1 : W1.cell? ⟨w.heap.size, 1, none⟩ = some (.int .i64 B) := by rw [hW1, World.cell?_alloc_lt _ _ _ (by simp)]; exact World.cell?_alloc_at _ _ _ _ rfl
  have z2 : W1.cell? ⟨w.heap.size, 2, none⟩ = some (.int .i64 I) := by rw [hW1, World.cell?_alloc_lt _ _ _ (by simp)]; exact World.cell?_alloc_at _ _ _ _ rfl
  have z3 : W1.cell? ⟨w.heap.size, 3, none⟩ = some (zv) := by rw [hW1, World.cell?_alloc_lt _ _ _ (by simp)]; exact World.cell?_alloc_at _ _ _ _ rfl
  have o0 : W1.cell? ⟨w.heap.size + 1, 0, none⟩ = some (.int .i64 3) := by rw [hW1]; exact World.cell?_alloc_at _ _ _ _ (by simp)
  have o1 : W1.cell? ⟨w.heap.size + 1, 1, none⟩ = some (.int .i64 t) := by rw [hW1]; exact World.cell?_alloc_at _ _ _ _ (by simp)
  have o2 : W1.cell? ⟨w.heap.size + 1, 2, none⟩ = some (.int .i64 n) := by rw [hW1]; exact World.cell?_alloc_at _ _ _ _ (by simp)
  have o3 : W1.cell? ⟨w.heap.size + 1, 3, none⟩ = some (.int .i64 x.num) := by rw [hW1]; exact World.cell?_alloc_at _ _ _ _ (by simp)
  have o4 : W1.cell? ⟨w.heap.size + 1, 4, none⟩ = some (.slice A x.h.length c) := by rw [hW1]; exact World.cell?_alloc_at _ _ _ _ (by simp)
  have o5 : W1.cell? ⟨w.heap.size + 1, 5, none⟩ = some (.slice A' x.b.length c') := by rw [hW1]; exact World.cell?_alloc_at _ _ _ _ (by simp)
  have HF1 := Lib.hid hF1
  clear hF1
  have hrf := HR.out W1 HF1.out
  rw [hm] at hrf
  obtain ⟨_, hcv, rb, ro, rfl, hokb, l0, l1, l2⟩ := hrf.first
  have HOKB := Lib.hid (HOK.out rb hokb)
  have HOKR := Lib.hid hokb
  have HRF := Lib.hid hrf
  rw [hm] at hmat
  have HM := Lib.hid hmat
  have HHM := Lib.hid hm
  have HRL : Hid ((r.length : Int) + 1 ≤ I) := by unfold Hid; omega
  have HSB : Hid (x0.h.length + x0.b.length ≤ 1048576) := by
    have h3 := (HLF.out t.toNat (by omega)).2
    rw [hm] at h3
    have h2 := qbytes_nn r
    have h4 : qbytes (x0 :: r) = x0.size + qbytes r := rfl
    unfold Hid
    unfold QI.size at h4
    omega
  have HRF4 : Hid (r.length + 1 ≤ 4096) := by
    have h3 := (HLF.out t.toNat (by omega)).1
    rw [hm] at h3
    exact h3
  clear hrf hmat hokb hm hlen hli
  go_enter Try.func44, Try.ntmps44
  go_wp2_with fail
  rw [← hW1]
  clear hW1
  refine (cut_range t n x0 r _ (HQF.out _ HF1.out) HM.out hn).mono ?_
  rintro rr w12 ⟨rfl, rfl⟩
  have hz : (⟨x0.b.toArray⟩ : ByteArray).size = x0.b.length := by simp [ByteArray.size]
  have hnb : x0.b.length ≤ 1048576 := by have := HSB.out; omega
  have hn' : n < 0 ∨ (0 ≤ n ∧ (x0.b.length : Int) < n) := by omega
  clear hn
  rcases hn' with hn | ⟨hn0, hn⟩
  · have hd : decide (n < 0) = true := by simpa using hn
    go_wp2_with fail
    go_quiet (fail)
    go_wp2_with fail
    go_ret2
    exact HSAME.out _ (HF1.out.drewN _)
  · have hd : decide (n < 0) = false := by simp; omega
    go_wp2_with fail
    go_quiet (fail)
    go_wp2_with fail
    go_ret2
    exact HSAME.out _ (HF1.out.drewN _)
set_option maxRecDepth 100000 in
set_option maxHeartbeats 6400000 in
theorem one_cut_yes {tg : Nat → Nat} {ok okb : Nat → Prop} {q bl T : Nat} {B I : Int} {m : Nat → List QI} {v hv bv zv : Value} (t : Int) (n : Nat) (x : QI) (w : World) (h : QRep tg w q bl T B I m) (hr : RefIn ok w v (m t.toNat)) (hok : ∀ k, ok k → tg k = 0) (hh : BytesIn okb w hv x.h) (hb : BytesIn okb w bv x.b) (h0 : 0 ≤ t) (h1 : t < T) (hli : ((m t.toNat).length : Int) ≤ I) (x0 : QI) (r : List QI) (hm : m t.toNat = x0 :: r) (hn : n ≤ x0.b.length) :
    Calls Try.prog 44 #[.pointer (some ⟨q, 0, none⟩), v, .agg #[.int .i64 (T : Int), .int .i64 B, .int .i64 I, zv], .agg #[.int .i64 3, .int .i64 t, .int .i64 (n : Int), .int .i64 x.num, hv, bv]] w (OnePost tg ok w q bl T B I m t.toNat (⟨x0.num, x0.h, x0.b.drop n⟩ :: r)) := by
  have hlen : (m t.toNat).length = r.length + 1 := by rw [hm]; rfl
  have H1 : Hid (∀ W, Frm NoS w W → BytesIn okb W hv x.h) := fun W hf => hh.frm hf (fun _ _ _ h => h)
  have H2 : Hid (∀ W, Frm NoS w W → BytesIn okb W bv x.b) := fun W hf => hb.frm hf (fun _ _ _ h => h)
  have HR : Hid (∀ W, Frm NoS w W → RefIn ok W v (m t.toNat)) := fun W hf => hr.frm hf (fun _ _ _ h => h)
  have HQ := Lib.hid h
  have HQF : Hid (∀ W, Frm NoS w W → QRep tg W q bl T B I m) := fun W hf => h.frm hf (fun _ _ _ h => h)
  have HSAME : Hid (∀ W, Frm NoS w W → OnePost tg ok w q bl T B I m t.toNat (m t.toNat) (.returned (.tuple #[v, .bool true])) W) := fun W hf => OnePost.same h hr hok hli hf
  have hB := h.B1
  have hI := h.I1
  have HOK := Lib.hid hok
  have hmat : mAt m T t = m t.toNat := by simp [mAt, h0, h1]
  have HLF : Hid (∀ s, s < T → (m s).length ≤ 4096 ∧ qbytes (m s) ≤ B) := fun s hs => by
    obtain ⟨_, _, _, hl⟩ := h.line s hs
    exact ⟨hl.few, h.lim s hs⟩
  obtain ⟨A, c, rfl, _, _, hb1, _⟩ := hh
  obtain ⟨A', c', rfl, _, _, hb2, _⟩ := hb
  obtain ⟨Av, cv, rfl, _⟩ := id hr
  clear hok h hr
  simp only [hlen] at HR HSAME ⊢
  obtain ⟨W1, hW1⟩ : ∃ W1, W1 = (w.alloc (.cells #[.int .i64 (T : Int), .int .i64 B, .int .i64 I, zv] 71)).alloc (.cells #[.int .i64 3, .int .i64 t, .int .i64 (n : Int), .int .i64 x.num, .slice A x.h.length c, .slice A' x.b.length c'] 76) := ⟨_, rfl⟩
  have hF1 : Frm NoS w W1 := by rw [hW1]; exact Frm.alloc (Frm.alloc (Frm.refl _ _) _) _
  have z0 : W1.cell? ⟨w.heap.size, 0, none⟩ = some (.int .i64 (T : Int)) := by rw [hW1, World.cell?_alloc_lt _ _ _ (by simp)]; exact World.cell?_alloc_at _ _ _ _ rfl
  have z1 : W1.cell? ⟨w.heap.size, 1, none⟩ = some (.int .i64 B) := by rw [hW1, World.cell?_alloc_lt _ _ _ (by simp)]; exact World.cell?_alloc_at _ _ _ _ rfl
  have z2 : W1.cell? ⟨w.heap.size, 2, none⟩ = some (.int .i64 I) := by rw [hW1, World.cell?_alloc_lt _ _ _ (by simp)]; exact World.cell?_alloc_at _ _ _ _ rfl
  have z3 : W1.cell? ⟨w.heap.size, 3, none⟩ = some (zv) := by rw [hW1, World.cell?_alloc_lt _ _ _ (by simp)]; exact World.cell?_alloc_at _ _ _ _ rfl
  have o0 : W1.cell? ⟨w.heap.size + 1, 0, none⟩ = some (.int .i64 3) := by rw [hW1]; exact World.cell?_alloc_at _ _ _ _ (by simp)
  have o1 : W1.cell? ⟨w.heap.size + 1, 1, none⟩ = some (.int .i64 t) := by rw [hW1]; exact World.cell?_alloc_at _ _ _ _ (by simp)
  have o2 : W1.cell? ⟨w.heap.size + 1, 2, none⟩ = some (.int .i64 (n : Int)) := by rw [hW1]; exact World.cell?_alloc_at _ _ _ _ (by simp)
  have o3 : W1.cell? ⟨w.heap.size + 1, 3, none⟩ = some (.int .i64 x.num) := by rw [hW1]; exact World.cell?_alloc_at _ _ _ _ (by simp)
  have o4 : W1.cell? ⟨w.heap.size + 1, 4, none⟩ = some (.slice A x.h.length c) := by rw [hW1]; exact World.cell?_alloc_at _ _ _ _ (by simp)
  have o5 : W1.cell? ⟨w.heap.size + 1, 5, none⟩ = some (.slice A' x.b.length c') := by rw [hW1]; exact World.cell?_alloc_at _ _ _ _ (by simp)
  have HF1 := Lib.hid hF1
  clear hF1
  have hrf := HR.out W1 HF1.out
  rw [hm] at hrf
  obtain ⟨_, hcv, rb, ro, rfl, hokb, l0, l1, l2⟩ := hrf.first
  have HOKB := Lib.hid (HOK.out rb hokb)
  have HOKR := Lib.hid hokb
  have HRF := Lib.hid hrf
  rw [hm] at hmat
  have HM := Lib.hid hmat
  have HHM := Lib.hid hm
  have HRL : Hid ((r.length : Int) + 1 ≤ I) := by unfold Hid; omega
  have HSB : Hid (x0.h.length + x0.b.length ≤ 1048576) := by
    have h3 := (HLF.out t.toNat (by omega)).2
    rw [hm] at h3
    have h2 := qbytes_nn r
    have h4 : qbytes (x0 :: r) = x0.size + qbytes r := rfl
    unfold Hid
    unfold QI.size at h4
    omega
  have HRF4 : Hid (r.length + 1 ≤ 4096) := by
    have h3 := (HLF.out t.toNat (by omega)).1
    rw [hm] at h3
    exact h3
  clear hrf hmat hokb hm hlen hli
  go_enter Try.func44, Try.ntmps44
  go_wp2_with fail
  rw [← hW1]
  clear hW1
  refine (cut_yes t n x0 r _ (HQF.out _ HF1.out) HM.out hn).mono ?_
  rintro rr w12 ⟨v5, rfl, hby, ⟨A5, c5, rfl⟩, hq12, hf12⟩
  have hnL : ∀ k j, tg k = 0 → ¬ LineS tg t.toNat k j := fun k j hk hS => by have := hS.le; omega
  have hw0 : tg w.heap.size = 0 := HQ.out.tz _ (Nat.le_refl _)
  have hw1 : tg (w.heap.size + 1) = 0 := HQ.out.tz _ (Nat.le_succ _)
  have o2 := hf12.keep o2 (hnL _ _ hw1)
  have l0 := hf12.keep l0 (hnL _ _ HOKB.out)
  have l1 := hf12.keep l1 (hnL _ _ HOKB.out)
  have l2 := hf12.keep l2 (hnL _ _ HOKB.out)
  have HRF12 := Lib.hid (HRF.out.frm hf12 (fun k j hk => hnL k j (HOK.out k hk)))
  have HQ12 := Lib.hid hq12
  have HF12 := Lib.hid hf12
  have HBY := Lib.hid hby
  have hz : (⟨x0.b.toArray⟩ : ByteArray).size = x0.b.length := by simp [ByteArray.size]
  have hnb : x0.b.length ≤ 1048576 := by have := HSB.out; omega
  have hex : (⟨x0.b.toArray⟩ : ByteArray).extract 0 n = ⟨(x0.b.take n).toArray⟩ := str_take _ _
  have HEX := Lib.hid hex
  have htl : (x0.b.take n).length = n := by simp; omega
  rw [htl] at HBY ⊢
  clear hnL hq12 hf12 hby hex htl z0 z1 z2 z3 o0 o1 o3 o4 o5
  have hd : decide ((n : Int) < 0) = false := by simp
  go_wp2_with fail
  go_quiet (fail)
  go_wp2_with fail
  generalize hW13 : World.drewN _ _ = W13
  have hF13 : Frm NoS w12 W13 := by rw [← hW13]; exact (Frm.refl _ _).drewN _
  have o2 := hF13.keep o2 (fun h => h)
  have l0 := hF13.keep l0 (fun h => h)
  have l1 := hF13.keep l1 (fun h => h)
  have l2 := hF13.keep l2 (fun h => h)
  have hex : (⟨x0.b.toArray⟩ : ByteArray).extract 0 n = ⟨(x0.b.take n).toArray⟩ := HEX.out
  have HRF13 : Hid (∀ W, Frm NoS W13 W → RefIn ok W (.slice (some ⟨rb, ro, none⟩) (r.length + 1) cv) (x0 :: r)) := fun W hf => HRF12.out.frm (hF13.trans hf) (fun _ _ _ h => h)
  have HQ13 : Hid (∀ W, Frm NoS W13 W → QRep tg W q bl T B I (upd m t.toNat (⟨x0.num, x0.h, x0.b.drop n⟩ :: r))) := fun W hf => HQ12.out.frm (hF13.trans hf) (fun _ _ _ h => h)
  have HBY13 : Hid (∀ W, Frm NoS W13 W → (convert 55 9 (.slice A5 n c5)).run Try.prog W = .ok (.string ⟨(x0.b.take n).toArray⟩) W) := fun W hf => str_of (HBY.out.frm (hF13.trans hf) (fun _ _ _ h => h))
  have HF13 := Lib.hid hF13
  clear hF13 hW13
  have K13 : Hid (∀ w', Frm NoS W13 w' → w'.cell? ⟨w.heap.size + 1, 2, none⟩ = some (.int .i64 (n : Int)) ∧ w'.cell? ⟨rb, ro, none⟩ = some (.int .i64 x0.num) ∧ w'.cell? ⟨rb, ro + 1, none⟩ = some (.string ⟨x0.h.toArray⟩) ∧ w'.cell? ⟨rb, ro + 2, none⟩ = some (.string ⟨x0.b.toArray⟩) ∧ (convert 55 9 (.slice A5 n c5)).run Try.prog w' = .ok (.string ⟨(x0.b.take n).toArray⟩) w' ∧ Frm NoS W13 w') := fun w' hf => ⟨hf.keep o2 (fun h => h), hf.keep l0 (fun h => h), hf.keep l1 (fun h => h), hf.keep l2 (fun h => h), HBY13.out w' hf, hf⟩
  go_region_held3 (fun w' => w'.cell? ⟨w.heap.size + 1, 2, none⟩ = some (.int .i64 (n : Int)) ∧ w'.cell? ⟨rb, ro, none⟩ = some (.int .i64 x0.num) ∧ w'.cell? ⟨rb, ro + 1, none⟩ = some (.string ⟨x0.h.toArray⟩) ∧ w'.cell? ⟨rb, ro + 2, none⟩ = some (.string ⟨x0.b.toArray⟩) ∧ (convert 55 9 (.slice A5 n c5)).run Try.prog w' = .ok (.string ⟨(x0.b.take n).toArray⟩) w' ∧ Frm NoS W13 w') ((first | exact hN5 | (refine K13.out _ ?_; exact (Frm.refl NoS W13).drew))) (first | (go_at_call 79; have hS := ‹_ ∧ _ ∧ _ ∧ _ ∧ _ ∧ Frm NoS W13 _›.2.2.2.2.2; refine (refCut_yes n _ (HRF13.out _ hS) hn (by have := HRF4.out; simp; omega)).mono ?_; rintro rr w14 ⟨v7, rfl, hri, hb14⟩; have HRI := Lib.hid hri; have HZ7 := Lib.hid hS.size; have hN5 := K13.out _ (hS.trans (Frm.of_below hb14)); obtain ⟨A7, c7, rfl, _⟩ := hri; clear hS hb14))
  have HN := Lib.hid hN5.2.2.2.2.2
  clear hN5
  go_wp2_with fail
  go_ret2
  have tz := HQ.out.tz
  have hz1 := HF12.out.size
  have hz2 := HF13.out.size
  have hz3 := HZ7.out
  refine ⟨.slice A7 (r.length + 1) c7, tg, rfl, ?_, HQ13.out _ HN.out, fun _ _ => rfl, ((HF1.out.mono (fun _ _ _ h => h.elim)).trans (HF12.out.mono (fun _ _ _ h => h.le))).trans ((HF13.out.trans HN.out).mono (fun _ _ _ h => h.elim)), HRL.out⟩
  have hz0 := HF1.out.size
  exact HRI.out.mono (fun k _ hk => ⟨tz k (Nat.le_trans (Nat.le_trans hz0 (Nat.le_trans hz1 (Nat.le_trans hz2 hz3))) hk.1), .inr (Nat.le_trans (Nat.le_trans hz0 (Nat.le_trans hz1 (Nat.le_trans hz2 hz3))) hk.1)⟩)
set_option maxRecDepth 100000 in
set_option maxHeartbeats 6400000 in
theorem one_pop {tg : Nat → Nat} {ok okb : Nat → Prop} {q bl T : Nat} {B I : Int} {m : Nat → List QI} {v hv bv zv : Value} (t : Int) (n : Int) (x : QI) (w : World) (h : QRep tg w q bl T B I m) (hr : RefIn ok w v (m t.toNat)) (hok : ∀ k, ok k → tg k = 0) (hh : BytesIn okb w hv x.h) (hb : BytesIn okb w bv x.b) (h0 : 0 ≤ t) (h1 : t < T) (hli : ((m t.toNat).length : Int) ≤ I) (x0 : QI) (r : List QI) (hm : m t.toNat = x0 :: r) :
    Calls Try.prog 44 #[.pointer (some ⟨q, 0, none⟩), v, .agg #[.int .i64 (T : Int), .int .i64 B, .int .i64 I, zv], .agg #[.int .i64 4, .int .i64 t, .int .i64 n, .int .i64 x.num, hv, bv]] w (OnePost tg ok w q bl T B I m t.toNat r) := by
  have hlen : (m t.toNat).length = r.length + 1 := by rw [hm]; rfl
  have H1 : Hid (∀ W, Frm NoS w W → BytesIn okb W hv x.h) := fun W hf => hh.frm hf (fun _ _ _ h => h)
  have H2 : Hid (∀ W, Frm NoS w W → BytesIn okb W bv x.b) := fun W hf => hb.frm hf (fun _ _ _ h => h)
  have HR : Hid (∀ W, Frm NoS w W → RefIn ok W v (m t.toNat)) := fun W hf => hr.frm hf (fun _ _ _ h => h)
  have HQ := Lib.hid h
  have HQF : Hid (∀ W, Frm NoS w W → QRep tg W q bl T B I m) := fun W hf => h.frm hf (fun _ _ _ h => h)
  have HSAME : Hid (∀ W, Frm NoS w W → OnePost tg ok w q bl T B I m t.toNat (m t.toNat) (.returned (.tuple #[v, .bool true])) W) := fun W hf => OnePost.same h hr hok hli hf
  have hB := h.B1
  have hI := h.I1
  have HOK := Lib.hid hok
  have hmat : mAt m T t = m t.toNat := by simp [mAt, h0, h1]
  have HLF : Hid (∀ s, s < T → (m s).length ≤ 4096 ∧ qbytes (m s) ≤ B) := fun s hs => by
    obtain ⟨_, _, _, hl⟩ := h.line s hs
    exact ⟨hl.few, h.lim s hs⟩
  obtain ⟨A, c, rfl, _, _, hb1, _⟩ := hh
  obtain ⟨A', c', rfl, _, _, hb2, _⟩ := hb
  obtain ⟨Av, cv, rfl, _⟩ := id hr
  clear hok h hr
  simp only [hlen] at HR HSAME ⊢
  obtain ⟨W1, hW1⟩ : ∃ W1, W1 = (w.alloc (.cells #[.int .i64 (T : Int), .int .i64 B, .int .i64 I, zv] 71)).alloc (.cells #[.int .i64 4, .int .i64 t, .int .i64 n, .int .i64 x.num, .slice A x.h.length c, .slice A' x.b.length c'] 76) := ⟨_, rfl⟩
  have hF1 : Frm NoS w W1 := by rw [hW1]; exact Frm.alloc (Frm.alloc (Frm.refl _ _) _) _
  have z0 : W1.cell? ⟨w.heap.size, 0, none⟩ = some (.int .i64 (T : Int)) := by rw [hW1, World.cell?_alloc_lt _ _ _ (by simp)]; exact World.cell?_alloc_at _ _ _ _ rfl
  have z1 : W1.cell? ⟨w.heap.size, 1, none⟩ = some (.int .i64 B) := by rw [hW1, World.cell?_alloc_lt _ _ _ (by simp)]; exact World.cell?_alloc_at _ _ _ _ rfl
  have z2 : W1.cell? ⟨w.heap.size, 2, none⟩ = some (.int .i64 I) := by rw [hW1, World.cell?_alloc_lt _ _ _ (by simp)]; exact World.cell?_alloc_at _ _ _ _ rfl
  have z3 : W1.cell? ⟨w.heap.size, 3, none⟩ = some (zv) := by rw [hW1, World.cell?_alloc_lt _ _ _ (by simp)]; exact World.cell?_alloc_at _ _ _ _ rfl
  have o0 : W1.cell? ⟨w.heap.size + 1, 0, none⟩ = some (.int .i64 4) := by rw [hW1]; exact World.cell?_alloc_at _ _ _ _ (by simp)
  have o1 : W1.cell? ⟨w.heap.size + 1, 1, none⟩ = some (.int .i64 t) := by rw [hW1]; exact World.cell?_alloc_at _ _ _ _ (by simp)
  have o2 : W1.cell? ⟨w.heap.size + 1, 2, none⟩ = some (.int .i64 n) := by rw [hW1]; exact World.cell?_alloc_at _ _ _ _ (by simp)
  have o3 : W1.cell? ⟨w.heap.size + 1, 3, none⟩ = some (.int .i64 x.num) := by rw [hW1]; exact World.cell?_alloc_at _ _ _ _ (by simp)
  have o4 : W1.cell? ⟨w.heap.size + 1, 4, none⟩ = some (.slice A x.h.length c) := by rw [hW1]; exact World.cell?_alloc_at _ _ _ _ (by simp)
  have o5 : W1.cell? ⟨w.heap.size + 1, 5, none⟩ = some (.slice A' x.b.length c') := by rw [hW1]; exact World.cell?_alloc_at _ _ _ _ (by simp)
  have HF1 := Lib.hid hF1
  clear hF1
  have hrf := HR.out W1 HF1.out
  rw [hm] at hrf
  obtain ⟨_, hcv, rb, ro, rfl, hokb, l0, l1, l2⟩ := hrf.first
  have HOKB := Lib.hid (HOK.out rb hokb)
  have HOKR := Lib.hid hokb
  have HRF := Lib.hid hrf
  rw [hm] at hmat
  have HM := Lib.hid hmat
  have HHM := Lib.hid hm
  have HRL : Hid ((r.length : Int) + 1 ≤ I) := by unfold Hid; omega
  have HSB : Hid (x0.h.length + x0.b.length ≤ 1048576) := by
    have h3 := (HLF.out t.toNat (by omega)).2
    rw [hm] at h3
    have h2 := qbytes_nn r
    have h4 : qbytes (x0 :: r) = x0.size + qbytes r := rfl
    unfold Hid
    unfold QI.size at h4
    omega
  have HRF4 : Hid (r.length + 1 ≤ 4096) := by
    have h3 := (HLF.out t.toNat (by omega)).1
    rw [hm] at h3
    exact h3
  clear hrf hmat hokb hm hlen hli
  go_enter Try.func44, Try.ntmps44
  go_wp2_with fail
  rw [← hW1]
  clear hW1
  refine (pop_yes t x0 r _ (HQF.out _ HF1.out) HM.out).mono ?_
  rintro rr w12 ⟨hv5, bv5, rfl, ⟨hv6, bv6, he, hi1, hi2⟩, ⟨A5, c5, rfl⟩, ⟨A6, c6, rfl⟩, hq12, hf12⟩
  simp only [List.cons.injEq, and_true, true_and] at he
  obtain ⟨rfl, rfl⟩ := he
  have hnL : ∀ k j, tg k = 0 → ¬ LineS tg t.toNat k j := fun k j hk hS => by have := hS.le; omega
  have l0 := hf12.keep l0 (hnL _ _ HOKB.out)
  have l1 := hf12.keep l1 (hnL _ _ HOKB.out)
  have l2 := hf12.keep l2 (hnL _ _ HOKB.out)
  have HRF12 := Lib.hid (HRF.out.frm hf12 (fun k j hk => hnL k j (HOK.out k hk)))
  have HQ12 := Lib.hid hq12
  have HF12 := Lib.hid hf12
  obtain ⟨W13, hW13⟩ : ∃ W13, W13 = w12.alloc (.cells #[.int .i64 x0.num, .slice A5 x0.h.length c5, .slice A6 x0.b.length c6] 57) := ⟨_, rfl⟩
  have hF13 : Frm NoS w12 W13 := by rw [hW13]; exact Frm.alloc (Frm.refl _ _) _
  have y0 : W13.cell? ⟨w12.heap.size, 0, none⟩ = some (.int .i64 x0.num) := by rw [hW13]; exact World.cell?_alloc_at _ _ _ _ rfl
  have y1 : W13.cell? ⟨w12.heap.size, 1, none⟩ = some (.slice A5 x0.h.length c5) := by rw [hW13]; exact World.cell?_alloc_at _ _ _ _ rfl
  have y2 : W13.cell? ⟨w12.heap.size, 2, none⟩ = some (.slice A6 x0.b.length c6) := by rw [hW13]; exact World.cell?_alloc_at _ _ _ _ rfl
  have l0 := hF13.keep l0 (fun h => h)
  have l1 := hF13.keep l1 (fun h => h)
  have l2 := hF13.keep l2 (fun h => h)
  have HJ1 : Hid (∀ W, Frm NoS W13 W → BytesIn _ W (.slice A5 x0.h.length c5) x0.h) := fun W hf => hi1.frm (hF13.trans hf) (fun _ _ _ h => h)
  have HJ2 : Hid (∀ W, Frm NoS W13 W → BytesIn _ W (.slice A6 x0.b.length c6) x0.b) := fun W hf => hi2.frm (hF13.trans hf) (fun _ _ _ h => h)
  have HRF13 : Hid (∀ W, Frm NoS W13 W → RefIn ok W (.slice (some ⟨rb, ro, none⟩) (r.length + 1) cv) (x0 :: r)) := fun W hf => HRF12.out.frm (hF13.trans hf) (fun _ _ _ h => h)
  have HQ13 : Hid (∀ W, Frm NoS W13 W → QRep tg W q bl T B I (upd m t.toNat r)) := fun W hf => HQ12.out.frm (hF13.trans hf) (fun _ _ _ h => h)
  have HF13 := Lib.hid hF13
  have hcv1 : (r.length : Int) + 1 ≤ cv := by omega
  clear hnL hq12 hf12 hF13 hi1 hi2 z0 z1 z2 z3 o0 o1 o2 o3 o4 o5
  go_wp2_with fail
  rw [← hW13]
  clear hW13
  have K13 : Hid (∀ w', Frm NoS W13 w' → w'.cell? ⟨w12.heap.size, 0, none⟩ = some (.int .i64 x0.num) ∧ w'.cell? ⟨w12.heap.size, 1, none⟩ = some (.slice A5 x0.h.length c5) ∧ w'.cell? ⟨w12.heap.size, 2, none⟩ = some (.slice A6 x0.b.length c6) ∧ w'.cell? ⟨rb, ro, none⟩ = some (.int .i64 x0.num) ∧ w'.cell? ⟨rb, ro + 1, none⟩ = some (.string ⟨x0.h.toArray⟩) ∧ w'.cell? ⟨rb, ro + 2, none⟩ = some (.string ⟨x0.b.toArray⟩) ∧ Frm NoS W13 w') := fun w' hf => ⟨hf.keep y0 (fun h => h), hf.keep y1 (fun h => h), hf.keep y2 (fun h => h), hf.keep l0 (fun h => h), hf.keep l1 (fun h => h), hf.keep l2 (fun h => h), hf⟩
  obtain ⟨AA, hsl, hAA⟩ := tail_run rb ro (r.length + 1) cv (by omega)
  have HAA := Lib.hid hAA
  rw [Nat.add_sub_cancel] at hsl
  clear hAA
  go_region_held3 (fun w' => w'.cell? ⟨w12.heap.size, 0, none⟩ = some (.int .i64 x0.num) ∧ w'.cell? ⟨w12.heap.size, 1, none⟩ = some (.slice A5 x0.h.length c5) ∧ w'.cell? ⟨w12.heap.size, 2, none⟩ = some (.slice A6 x0.b.length c6) ∧ w'.cell? ⟨rb, ro, none⟩ = some (.int .i64 x0.num) ∧ w'.cell? ⟨rb, ro + 1, none⟩ = some (.string ⟨x0.h.toArray⟩) ∧ w'.cell? ⟨rb, ro + 2, none⟩ = some (.string ⟨x0.b.toArray⟩) ∧ Frm NoS W13 w') ((refine K13.out _ ?_; first | exact (Frm.refl NoS W13).drew | exact (((Frm.refl NoS W13).alloc _).alloc _).drew)) (first | (go_at_call 33; have hS := ‹_ ∧ _ ∧ _ ∧ _ ∧ _ ∧ _ ∧ Frm NoS W13 _›.2.2.2.2.2.2; refine (ref_any x0 _ (HJ1.out _ hS) (HJ2.out _ hS)).mono ?_; clear hS; rintro rr w14 ⟨rfl, rfl⟩; unfold refV))
  have HN := Lib.hid ‹_ ∧ _ ∧ _ ∧ _ ∧ _ ∧ _ ∧ Frm NoS W13 _›.2.2.2.2.2.2
  clear hsl
  go_wp2_with fail
  go_ret2
  refine ⟨.slice AA r.length (cv - 1), tg, rfl, ?_, HQ13.out _ HN.out, fun _ _ => rfl, ((HF1.out.mono (fun _ _ _ h => h.elim)).trans (HF12.out.mono (fun _ _ _ h => h.le))).trans ((HF13.out.trans HN.out).mono (fun _ _ _ h => h.elim)), by have := HRL.out; omega⟩
  exact ((HRF13.out _ HN.out).tail AA (fun h0 => HAA.out (by omega))).mono (fun k _ hk => ⟨HOK.out k hk, .inl hk⟩)
end Go.Proofs.Ytpihldeikdiniaa
