/- Package squintlaw18: step, of a tenant that there is. -/
import Derived.Test.YtpihldeikdiniaaQ36
namespace Go.Proofs.Ytpihldeikdiniaa
open Go.RowKit
set_option linter.unusedVariables false
set_option linter.unusedSimpArgs false
set_option maxRecDepth 100000 in
set_option maxHeartbeats 6400000 in
theorem step_in {tg : Nat → Nat} {ok okb : Nat → Prop} {q bl T mb : Nat} {B I : Int} {m : Nat → List QI} {hv bv zv : Value} (o : OpD) (w : World) (h : QRep tg w q bl T B I m) (hm : MRep ok w mb T m) (hokp : ∀ k, ok k → tg k = 0 ∧ k ≠ mb) (hmb : tg mb = 0)
    (hh : BytesIn okb w hv o.x.h) (hb : BytesIn okb w bv o.x.b) (h0 : 0 ≤ o.t) (h1 : o.t < T) (hli : ∀ t, t < T → ((m t).length : Int) ≤ I) (hk : o.kind ≠ 6) :
    Calls Try.prog 41 #[.pointer (some ⟨q, 0, none⟩), .slice (some ⟨mb, 0, none⟩) T T, .agg #[.int .i64 (T : Int), .int .i64 B, .int .i64 I, zv], .agg #[.int .i64 o.kind, .int .i64 o.t, .int .i64 o.n, .int .i64 o.x.num, hv, bv]] w (StepPost tg ok mb w q bl T B I (upd m o.t.toNat (oneL B I (m o.t.toNat) o))) := by
  obtain ⟨kind, t, n, x⟩ := o
  simp only at *
  have H1 : Hid (∀ W, Frm NoS w W → BytesIn okb W hv x.h) := fun W hf => hh.frm hf (fun _ _ _ h => h)
  have H2 : Hid (∀ W, Frm NoS w W → BytesIn okb W bv x.b) := fun W hf => hb.frm hf (fun _ _ _ h => h)
  have HQF : Hid (∀ W, Frm NoS w W → QRep tg W q bl T B I m) := fun W hf => h.frm hf (fun _ _ _ h => h)
  have HQ := Lib.hid h
  have hT : 0 < T := h.T1.1
  have HMF : Hid (∀ W, Frm NoS w W → MRep ok W mb T m) := fun W hf => hm.frm hT hf (fun _ _ _ h => h) (fun _ h => h)
  have HLI := Lib.hid hli
  have HOKP := Lib.hid hokp
  have HMB := Lib.hid hmb
  obtain ⟨A, c, rfl, _, _, hb1, _⟩ := hh
  obtain ⟨A', c', rfl, _, _, hb2, _⟩ := hb
  obtain ⟨vm, hcm, hrm⟩ := hm.cell t.toNat (by omega)
  have hfm := hm.fz t.toNat
  have HRM : Hid (∀ W, Frm NoS w W → RefIn ok W vm (m t.toNat)) := fun W hf => hrm.frm hf (fun _ _ _ h => h)
  have hmlt : mb < w.heap.size := World.block_lt_of_cell? w _ hcm
  clear h hm hli hmb hrm hokp
  obtain ⟨W1, hW1⟩ : ∃ W1, W1 = (w.alloc (.cells #[.int .i64 (T : Int), .int .i64 B, .int .i64 I, zv] 71)).alloc (.cells #[.int .i64 kind, .int .i64 t, .int .i64 n, .int .i64 x.num, .slice A x.h.length c, .slice A' x.b.length c'] 76) := ⟨_, rfl⟩
  have hF1 : Frm NoS w W1 := by rw [hW1]; exact Frm.alloc (Frm.alloc (Frm.refl _ _) _) _
  have z0 : W1.cell? ⟨w.heap.size, 0, none⟩ = some (.int .i64 (T : Int)) := by rw [hW1, World.cell?_alloc_lt _ _ _ (by simp)]; exact World.cell?_alloc_at _ _ _ _ rfl
  have z1 : W1.cell? ⟨w.heap.size, 1, none⟩ = some (.int .i64 B) := by rw [hW1, World.cell?_alloc_lt _ _ _ (by simp)]; exact World.cell?_alloc_at _ _ _ _ rfl
  have z2 : W1.cell? ⟨w.heap.size, 2, none⟩ = some (.int .i64 I) := by rw [hW1, World.cell?_alloc_lt _ _ _ (by simp)]; exact World.cell?_alloc_at _ _ _ _ rfl
  have z3 : W1.cell? ⟨w.heap.size, 3, none⟩ = some zv := by rw [hW1, World.cell?_alloc_lt _ _ _ (by simp)]; exact World.cell?_alloc_at _ _ _ _ rfl
  have o0 : W1.cell? ⟨w.heap.size + 1, 0, none⟩ = some (.int .i64 kind) := by rw [hW1]; exact World.cell?_alloc_at _ _ _ _ (by simp)
  have o1 : W1.cell? ⟨w.heap.size + 1, 1, none⟩ = some (.int .i64 t) := by rw [hW1]; exact World.cell?_alloc_at _ _ _ _ (by simp)
  have o2 : W1.cell? ⟨w.heap.size + 1, 2, none⟩ = some (.int .i64 n) := by rw [hW1]; exact World.cell?_alloc_at _ _ _ _ (by simp)
  have o3 : W1.cell? ⟨w.heap.size + 1, 3, none⟩ = some (.int .i64 x.num) := by rw [hW1]; exact World.cell?_alloc_at _ _ _ _ (by simp)
  have o4 : W1.cell? ⟨w.heap.size + 1, 4, none⟩ = some (.slice A x.h.length c) := by rw [hW1]; exact World.cell?_alloc_at _ _ _ _ (by simp)
  have o5 : W1.cell? ⟨w.heap.size + 1, 5, none⟩ = some (.slice A' x.b.length c') := by rw [hW1]; exact World.cell?_alloc_at _ _ _ _ (by simp)
  have hcm1 := hF1.keep hcm (fun h => h)
  have hfm1 := hF1.keepf hcm hfm (j := 0) (fun h => h)
  have HF1 := Lib.hid hF1
  have hkb : (kind == 6) = false := by simpa using hk
  have hkd : decide (kind = 6) = false := by simpa using hk
  clear hF1 hk hcm hfm
  go_enter Try.func41, Try.ntmps41
  go_wp2_with fail
  rw [← hW1]
  clear hW1
  clear hb1 hb2
  go_region_law (first | (go_simp; go_at_call 44; refine (one_any (ok := ok) (okb := okb) ⟨kind, t, n, x⟩ _ (HQF.out _ HF1.out.drew) (HRM.out _ HF1.out.drew) (fun k hk => (HOKP.out k hk).1) (H1.out _ HF1.out.drew) (H2.out _ HF1.out.drew) h0 h1 (HLI.out _ (by show t.toNat < T; omega))).mono ?_; rintro r w2 ⟨v2, tg2, rfl, hr2, hq2, ht2, hf2, hl2⟩; have hnm : ¬ (tg mb = 2 ∨ tg mb = 4 + t.toNat) := (by have := HMB.out; omega); have g1 := hf2.keep o1 (fun hS => by have := HQ.out.tz (w.heap.size + 1) (Nat.le_succ _); dsimp only at hS; omega); have g2 := hf2.keep (p := ⟨mb, t.toNat, none⟩) hcm1 hnm; have gf2 := hf2.keepf (p := ⟨mb, t.toNat, none⟩) hcm1 hfm1 (j := 0) hnm; have FIN := Lib.hid (step_fin hT HF1.out.drew (HMF.out _ HF1.out.drew) HOKP.out HMB.out hmlt (by show t.toNat < T; omega) HLI.out hr2 hq2 ht2 hf2 hl2); obtain ⟨A2, c2, rfl, _⟩ := hr2; clear hq2 ht2 hf2 hl2))
  all_goals
    go_wp2_with fail
    go_ret
    exact FIN.out
end Go.Proofs.Ytpihldeikdiniaa
