/- Package squintlaw18: step, the other ways; any step. -/
import Derived.Test.YtpihldeikdiniaaQ36
namespace Go.Proofs.Ytpihldeikdiniaa
open Go.RowKit
set_option linter.unusedVariables false
set_option linter.unusedSimpArgs false
theorem MRep.congr {ok : Nat → Prop} {w : World} {mb T : Nat} {mm mm' : Nat → List QI} (h : MRep ok w mb T mm) (e : ∀ t, t < T → mm t = mm' t) : MRep ok w mb T mm' where
  cell := fun t ht => by rw [← e t ht]; exact h.cell t ht
  fz := h.fz
def Clr6 (ok : Nat → Prop) (W : World) (mb T : Nat) (m : Nat → List QI) (n i : Value) (wr : World) : Prop :=
  ∃ k, k ≤ T ∧ i = .int .i64 (k : Int) ∧ n = .int .i64 (lsum m k : Int) ∧ MRep ok wr mb T (clr m k) ∧ Frm (fun k _ => k = mb) W wr
set_option maxRecDepth 100000 in
set_option maxHeartbeats 6400000 in
theorem step_clear {tg : Nat → Nat} {ok okb : Nat → Prop} {q bl T mb : Nat} {B I : Int} {m : Nat → List QI} {hv bv zv : Value} (t n : Int) (x : QI) (w : World) (h : QRep tg w q bl T B I m) (hm : MRep ok w mb T m) (hokp : ∀ k, ok k → tg k = 0 ∧ k ≠ mb) (hmb : tg mb = 0)
    (hh : BytesIn okb w hv x.h) (hb : BytesIn okb w bv x.b) (hli : ∀ t, t < T → ((m t).length : Int) ≤ I) :
    Calls Try.prog 41 #[.pointer (some ⟨q, 0, none⟩), .slice (some ⟨mb, 0, none⟩) T T, .agg #[.int .i64 (T : Int), .int .i64 B, .int .i64 I, zv], .agg #[.int .i64 6, .int .i64 t, .int .i64 n, .int .i64 x.num, hv, bv]] w (StepPost tg ok mb w q bl T B I (fun _ => [])) := by
  have HQF : Hid (∀ W, Frm NoS w W → QRep tg W q bl T B I m) := fun W hf => h.frm hf (fun _ _ _ h => h)
  have hT : 0 < T := h.T1.1
  have hT64 : T ≤ 64 := h.T1.2
  have HMF : Hid (∀ W, Frm NoS w W → MRep ok W mb T m) := fun W hf => hm.frm hT hf (fun _ _ _ h => h) (fun _ h => h)
  have HLI := Lib.hid hli
  have HOKP := Lib.hid hokp
  have HMB := Lib.hid hmb
  have HLF : Hid (∀ s, s < T → (m s).length ≤ 4096) := fun s hs => by
    obtain ⟨_, _, _, hl⟩ := h.line s hs
    exact hl.few
  obtain ⟨A, c, rfl, _, _, hb1, _⟩ := hh
  obtain ⟨A', c', rfl, _, _, hb2, _⟩ := hb
  clear h hm hli hmb hokp
  obtain ⟨W1, hW1⟩ : ∃ W1, W1 = (w.alloc (.cells #[.int .i64 (T : Int), .int .i64 B, .int .i64 I, zv] 71)).alloc (.cells #[.int .i64 6, .int .i64 t, .int .i64 n, .int .i64 x.num, .slice A x.h.length c, .slice A' x.b.length c'] 76) := ⟨_, rfl⟩
  have hF1 : Frm NoS w W1 := by rw [hW1]; exact Frm.alloc (Frm.alloc (Frm.refl _ _) _) _
  have z0 : W1.cell? ⟨w.heap.size, 0, none⟩ = some (.int .i64 (T : Int)) := by rw [hW1, World.cell?_alloc_lt _ _ _ (by simp)]; exact World.cell?_alloc_at _ _ _ _ rfl
  have z1 : W1.cell? ⟨w.heap.size, 1, none⟩ = some (.int .i64 B) := by rw [hW1, World.cell?_alloc_lt _ _ _ (by simp)]; exact World.cell?_alloc_at _ _ _ _ rfl
  have z2 : W1.cell? ⟨w.heap.size, 2, none⟩ = some (.int .i64 I) := by rw [hW1, World.cell?_alloc_lt _ _ _ (by simp)]; exact World.cell?_alloc_at _ _ _ _ rfl
  have z3 : W1.cell? ⟨w.heap.size, 3, none⟩ = some (zv) := by rw [hW1, World.cell?_alloc_lt _ _ _ (by simp)]; exact World.cell?_alloc_at _ _ _ _ rfl
  have o0 : W1.cell? ⟨w.heap.size + 1, 0, none⟩ = some (.int .i64 6) := by rw [hW1]; exact World.cell?_alloc_at _ _ _ _ (by simp)
  have o1 : W1.cell? ⟨w.heap.size + 1, 1, none⟩ = some (.int .i64 t) := by rw [hW1]; exact World.cell?_alloc_at _ _ _ _ (by simp)
  have o2 : W1.cell? ⟨w.heap.size + 1, 2, none⟩ = some (.int .i64 n) := by rw [hW1]; exact World.cell?_alloc_at _ _ _ _ (by simp)
  have o3 : W1.cell? ⟨w.heap.size + 1, 3, none⟩ = some (.int .i64 x.num) := by rw [hW1]; exact World.cell?_alloc_at _ _ _ _ (by simp)
  have o4 : W1.cell? ⟨w.heap.size + 1, 4, none⟩ = some (.slice A x.h.length c) := by rw [hW1]; exact World.cell?_alloc_at _ _ _ _ (by simp)
  have o5 : W1.cell? ⟨w.heap.size + 1, 5, none⟩ = some (.slice A' x.b.length c') := by rw [hW1]; exact World.cell?_alloc_at _ _ _ _ (by simp)
  have HF1 := Lib.hid hF1
  clear hF1
  go_enter Try.func41, Try.ntmps41
  go_wp2_with fail
  rw [← hW1]
  clear hW1
  clear z0 z1 z2 z3 o0 o1 o2 o3 o4 o5
  go_loopw [9, 19] (fun n i wr => Clr6 ok W1 mb T m n i wr) (fun _ i _ => T - (intOf i).toNat)
  case atStart => exact ⟨0, Nat.zero_le _, rfl, rfl, by rw [clr_zero]; exact HMF.out _ HF1.out, Frm.refl _ _⟩
  case round =>
    obtain ⟨k, hk, rfl, rfl, hM, hf⟩ := hrel
    have hls : lsum m k ≤ 4096 * k := lsum_le HLF.out k hk
    by_cases hlt : k < T
    · obtain ⟨v, hcv, hrv⟩ := hM.cell k hlt
      rw [show clr m k k = m k from by simp [clr]] at hrv
      have hmk := HLF.out k hlt
      have hfz := hM.fz k
      obtain ⟨Av, cv, rfl, _⟩ := hrv
      have HM := Lib.hid hM
      have HF := Lib.hid hf
      have HLS : Hid (lsum m (k + 1) = lsum m k + (m k).length) := rfl
      clear hM hf
      generalize hml : (m k).length = ml at *
      generalize hsl : lsum m k = sl at *
      have HML := Lib.hid hml
      have HSL := Lib.hid hsl
      clear hml hsl
      go_wp2_with fail
      go_roundw
      case measure => simp [intOf]; omega
      case rel => exact ⟨k + 1, by omega, by go_num, by rw [HLS.out]; go_num, by rw [← clr_succ]; exact HM.out.set hlt (RefIn.nil_ _ _) (fun h => (HOKP.out _ h).2 rfl), HF.out.set_old (p := ⟨mb, k, none⟩) rfl _⟩
    · obtain rfl : k = T := by omega
      have hne : ∀ k j, tg k ≠ 0 → ¬ (fun k (_ : Nat) => k = mb) k j := fun k j hk e => hk (by rw [show k = mb from e]; exact HMB.out)
      have HQ := Lib.hid ((HQF.out _ HF1.out).frm hf hne)
      have HM := Lib.hid (hM.congr (mm' := fun _ => []) (fun t ht => by simp [clr, ht]))
      have HC := Lib.hid (clear_any _ HQ.out)
      have HF := Lib.hid hf
      clear hM hf hne
      go_wp2_with fail
      refine HC.out.mono ?_
      rintro r w2 ⟨rfl, hq2, hf2⟩
      have HQ2 := Lib.hid hq2
      have HF2 := Lib.hid hf2
      clear hq2 hf2 HC
      go_wp2_with fail
      go_ret
      refine ⟨tg, rfl, HQ2.out, (HM.out.frm hT HF2.out (fun k j hk hS => by have h1 : tg k = 2 := hS; have := (HOKP.out k hk).1; omega) (fun j hS => by have h1 : tg mb = 2 := hS; have := HMB.out; omega)).mono (fun k _ hk => ⟨(HOKP.out k hk).1, (HOKP.out k hk).2, .inl hk⟩), fun _ _ => rfl, ?_, fun t ht => by simp; have := HLI.out t ht; omega⟩
      exact ((HF1.out.mono (fun _ _ _ h => h.elim)).trans (HF.out.mono (fun _ _ _ h => .inr h))).trans (HF2.out.mono (fun k j _ hS => .inl (by have h1 : tg k = 2 := hS; omega)))
set_option maxRecDepth 100000 in
set_option maxHeartbeats 6400000 in
theorem step_range {tg : Nat → Nat} {ok okb : Nat → Prop} {q bl T mb : Nat} {B I : Int} {m : Nat → List QI} {hv bv zv : Value} (kind t n : Int) (x : QI) (w : World) (h : QRep tg w q bl T B I m) (hm : MRep ok w mb T m) (hokp : ∀ k, ok k → tg k = 0 ∧ k ≠ mb) (hmb : tg mb = 0)
    (hh : BytesIn okb w hv x.h) (hb : BytesIn okb w bv x.b) (hli : ∀ t, t < T → ((m t).length : Int) ≤ I) (hk6 : kind ≠ 6) (ht : t < 0 ∨ (T : Int) ≤ t) :
    Calls Try.prog 41 #[.pointer (some ⟨q, 0, none⟩), .slice (some ⟨mb, 0, none⟩) T T, .agg #[.int .i64 (T : Int), .int .i64 B, .int .i64 I, zv], .agg #[.int .i64 kind, .int .i64 t, .int .i64 n, .int .i64 x.num, hv, bv]] w (StepPost tg ok mb w q bl T B I m) := by
  have hma : mAt m T t = [] := by simp [mAt]; omega
  have hkb6 : (kind == 6) = false := by simpa using hk6
  have hkd6 : decide (kind = 6) = false := by simpa using hk6
  have HQF : Hid (∀ W, Frm NoS w W → QRep tg W q bl T B I m) := fun W hf => h.frm hf (fun _ _ _ h => h)
  have hT : 0 < T := h.T1.1
  have hT64 : T ≤ 64 := h.T1.2
  have HMF : Hid (∀ W, Frm NoS w W → MRep ok W mb T m) := fun W hf => hm.frm hT hf (fun _ _ _ h => h) (fun _ h => h)
  have HLI := Lib.hid hli
  have HOKP := Lib.hid hokp
  have HMB := Lib.hid hmb
  have HLF : Hid (∀ s, s < T → (m s).length ≤ 4096) := fun s hs => by
    obtain ⟨_, _, _, hl⟩ := h.line s hs
    exact hl.few
  obtain ⟨A, c, rfl, _, _, hb1, _⟩ := hh
  obtain ⟨A', c', rfl, _, _, hb2, _⟩ := hb
  clear h hm hli hmb hokp
  obtain ⟨W1, hW1⟩ : ∃ W1, W1 = (w.alloc (.cells #[.int .i64 (T : Int), .int .i64 B, .int .i64 I, zv] 71)).alloc (.cells #[.int .i64 kind, .int .i64 t, .int .i64 n, .int .i64 x.num, .slice A x.h.length c, .slice A' x.b.length c'] 76) := ⟨_, rfl⟩
  have hF1 : Frm NoS w W1 := by rw [hW1]; exact Frm.alloc (Frm.alloc (Frm.refl _ _) _) _
  have z0 : W1.cell? ⟨w.heap.size, 0, none⟩ = some (.int .i64 (T : Int)) := by rw [hW1, World.cell?_alloc_lt _ _ _ (by simp)]; exact World.cell?_alloc_at _ _ _ _ rfl
  have z1 : W1.cell? ⟨w.heap.size, 1, none⟩ = some (.int .i64 B) := by rw [hW1, World.cell?_alloc_lt _ _ _ (by simp)]; exact World.cell?_alloc_at _ _ _ _ rfl
  have z2 : W1.cell? ⟨w.heap.size, 2, none⟩ = some (.int .i64 I) := by rw [hW1, World.cell?_alloc_lt _ _ _ (by simp)]; exact World.cell?_alloc_at _ _ _ _ rfl
  have z3 : W1.cell? ⟨w.heap.size, 3, none⟩ = some (zv) := by rw [hW1, World.cell?_alloc_lt _ _ _ (by simp)]; exact World.cell?_alloc_at _ _ _ _ rfl
  have o0 : W1.cell? ⟨w.heap.size + 1, 0, none⟩ = some (.int .i64 kind) := by rw [hW1]; exact World.cell?_alloc_at _ _ _ _ (by simp)
  have o1 : W1.cell? ⟨w.heap.size + 1, 1, none⟩ = some (.int .i64 t) := by rw [hW1]; exact World.cell?_alloc_at _ _ _ _ (by simp)
  have o2 : W1.cell? ⟨w.heap.size + 1, 2, none⟩ = some (.int .i64 n) := by rw [hW1]; exact World.cell?_alloc_at _ _ _ _ (by simp)
  have o3 : W1.cell? ⟨w.heap.size + 1, 3, none⟩ = some (.int .i64 x.num) := by rw [hW1]; exact World.cell?_alloc_at _ _ _ _ (by simp)
  have o4 : W1.cell? ⟨w.heap.size + 1, 4, none⟩ = some (.slice A x.h.length c) := by rw [hW1]; exact World.cell?_alloc_at _ _ _ _ (by simp)
  have o5 : W1.cell? ⟨w.heap.size + 1, 5, none⟩ = some (.slice A' x.b.length c') := by rw [hW1]; exact World.cell?_alloc_at _ _ _ _ (by simp)
  have HF1 := Lib.hid hF1
  clear hF1
  clear hk6
  have HMA := Lib.hid hma
  clear hma
  have KEEP : Hid (∀ w', Frm NoS W1 w' → w'.cell? ⟨w.heap.size, 0, none⟩ = some (.int .i64 (T : Int)) ∧ w'.cell? ⟨w.heap.size, 1, none⟩ = some (.int .i64 B) ∧ w'.cell? ⟨w.heap.size, 2, none⟩ = some (.int .i64 I) ∧ w'.cell? ⟨w.heap.size, 3, none⟩ = some (zv) ∧ w'.cell? ⟨w.heap.size + 1, 0, none⟩ = some (.int .i64 kind) ∧ w'.cell? ⟨w.heap.size + 1, 1, none⟩ = some (.int .i64 t) ∧ w'.cell? ⟨w.heap.size + 1, 2, none⟩ = some (.int .i64 n) ∧ w'.cell? ⟨w.heap.size + 1, 3, none⟩ = some (.int .i64 x.num) ∧ w'.cell? ⟨w.heap.size + 1, 4, none⟩ = some (.slice A x.h.length c) ∧ w'.cell? ⟨w.heap.size + 1, 5, none⟩ = some (.slice A' x.b.length c') ∧ Frm NoS W1 w') := fun w' hf => ⟨hf.keep z0 (fun h => h), hf.keep z1 (fun h => h), hf.keep z2 (fun h => h), hf.keep z3 (fun h => h), hf.keep o0 (fun h => h), hf.keep o1 (fun h => h), hf.keep o2 (fun h => h), hf.keep o3 (fun h => h), hf.keep o4 (fun h => h), hf.keep o5 (fun h => h), hf⟩
  clear z0 z1 z2 z3 o0 o1 o2 o3 o4 o5
  have hst := KEEP.out _ (Frm.refl _ _)
  obtain ⟨z0, z1, z2, z3, o0, o1, o2, o3, o4, o5, hF⟩ := hst
  clear hF
  have ht2 : (t < 0) ∨ (¬ t < 0 ∧ (T : Int) ≤ t) := by omega
  rcases ht2 with hd | ⟨hd0, hd⟩
  all_goals
   go_enter Try.func41, Try.ntmps41
   go_wp2_with fail
   rw [← hW1]
   clear hW1
   refine (first_none t _ (HQF.out _ HF1.out) HMA.out).mono ?_
   rintro r w12 ⟨rfl, hb12⟩
   clear z0 z1 z2 z3 o0 o1 o2 o3 o4 o5
   have hN5 := KEEP.out _ (Frm.of_below hb12)
   clear hb12
   obtain ⟨z0, z1, z2, z3, o0, o1, o2, o3, o4, o5, hF⟩ := hN5
   have hlw : w.heap.size + 1 < w12.heap.size := World.block_lt_of_cell? w12 _ o1
   have hlw0 : w.heap.size < w12.heap.size := World.block_lt_of_cell? w12 _ z0
   obtain ⟨⟨mne, mne1, mne2, mne3, mne4, mne5⟩, mlt1, mlt2, mlt3, mlt4, mlt5⟩ := ne_new hlw
   have hF12 : Frm NoS W1 (w12.alloc (.cells #[.int .i64 0, .slice none 0 0, .slice none 0 0] 57)) := hF.alloc _
   have HF12 := Lib.hid hF12
   clear hF hF12
   go_wp2_with fail
   refine (put_range A A' x.h.length c x.b.length c' x.num t _ (HQF.out _ (HF1.out.trans HF12.out)) ht).mono ?_
   rintro r w13 ⟨rfl, hb13⟩
   clear z0 z1 z2 z3 o0 o1 o2 o3 o4 o5
   have hN5 := KEEP.out _ (HF12.out.trans (Frm.of_below hb13))
   clear hb13
   obtain ⟨z0, z1, z2, z3, o0, o1, o2, o3, o4, o5, hF⟩ := hN5
   have HF13 := Lib.hid (HF1.out.trans hF)
   have HF13b := Lib.hid hF
   clear hF
   have HBY := Lib.hid (bytes_any t _ (HQF.out _ HF13.out))
   have HLN := Lib.hid (len_any t _ (HQF.out _ HF13.out))
   rw [HMA.out] at HBY HLN
   go_wp2_with (first | (go_at_call 42; refine HBY.out.mono ?_; rintro r w' ⟨rfl, rfl⟩) | (go_at_call 39; refine HLN.out.mono ?_; rintro r w' ⟨rfl, rfl⟩) | fail)
   refine (drop_range t n _ (HQF.out _ HF13.out) ht).mono ?_
   rintro r w14 ⟨rfl, hb14⟩
   have HF14 := Lib.hid (HF13.out.trans (Frm.of_below hb14))
   clear hb14
   go_wp2_with fail
   go_ret
   exact ⟨tg, rfl, HQF.out _ HF14.out, (HMF.out _ HF14.out).mono (fun k _ hk => ⟨(HOKP.out k hk).1, (HOKP.out k hk).2, .inl hk⟩), fun _ _ => rfl, HF14.out.mono (fun _ _ _ h => h.elim), HLI.out⟩
end Go.Proofs.Ytpihldeikdiniaa
