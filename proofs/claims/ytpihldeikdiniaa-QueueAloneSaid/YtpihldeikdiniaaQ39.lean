/- Package squintlaw18: QueuePlays, walked. -/
import Derived.Test.YtpihldeikdiniaaQ37
import Derived.Test.YtpihldeikdiniaaQ36b
import Derived.Test.YtpihldeikdiniaaQ38
import Derived.Test.YtpihldeikdiniaaQ16
namespace Go.Proofs.Ytpihldeikdiniaa
open Go.RowKit
set_option linter.unusedVariables false
set_option linter.unusedSimpArgs false
theorem Try.infoRefs : (Try.prog.info? 78).map (fun i => (i.zero, i.size, i.bytes)) = some (some (.slice none 0 0), 1, 24) := by kernel_rfl
/-- Any step. -/
theorem step_any {tg : Nat → Nat} {ok okb : Nat → Prop} {q bl T mb : Nat} {B I : Int} {m : Nat → List QI} {hv bv zv : Value} (o : OpD) (w : World) (h : QRep tg w q bl T B I m) (hm : MRep ok w mb T m) (hokp : ∀ k, ok k → tg k = 0 ∧ k ≠ mb) (hmb : tg mb = 0)
    (hh : BytesIn okb w hv o.x.h) (hb : BytesIn okb w bv o.x.b) (hli : ∀ t, t < T → ((m t).length : Int) ≤ I) :
    Calls Try.prog 41 #[.pointer (some ⟨q, 0, none⟩), .slice (some ⟨mb, 0, none⟩) T T, .agg #[.int .i64 (T : Int), .int .i64 B, .int .i64 I, zv], .agg #[.int .i64 o.kind, .int .i64 o.t, .int .i64 o.n, .int .i64 o.x.num, hv, bv]] w (StepPost tg ok mb w q bl T B I (stepL T B I m o)) := by
  unfold stepL
  by_cases hk : o.kind = 6
  · rw [if_pos hk]
    obtain ⟨kind, t, n, x⟩ := o
    simp only at *
    subst hk
    exact step_clear t n x w h hm hokp hmb hh hb hli
  · rw [if_neg hk]
    by_cases ht : 0 ≤ o.t ∧ o.t < T
    · rw [if_pos ht]
      exact step_in o w h hm hokp hmb hh hb ht.1 ht.2 hli hk
    · rw [if_neg ht]
      exact step_range o.kind o.t o.n o.x w h hm hokp hmb hh hb hli hk (by omega)
/-- A new row of empty lists. -/
theorem MRep.new {ok : Nat → Prop} (w : World) (T : Nat) (E : TypeId) : MRep ok (w.alloc (.cells (madeCells #[.slice none 0 0] T) E)) w.heap.size T (fun _ => []) where
  cell := fun t ht => ⟨.slice none 0 0, by
    rw [World.cell?_alloc_at _ _ _ _ rfl, made_get _ _ _ ht]
    simp [Nat.mod_one], RefIn.nil_ _ _⟩
  fz := fun j => World.frozen?_alloc_at _ _ _ _ rfl
def GeS (B : Nat) : Nat → Nat → Prop := fun k _ => B ≤ k
structure PlaysInv (tg : Nat → Nat) (W1 wr : World) (q bl T mb : Nat) (B I : Int) (mm : Nat → List QI) : Prop where
  q : QRep tg wr q bl T B I mm
  m : MRep (okM tg mb) wr mb T mm
  len : ∀ t, t < T → ((mm t).length : Int) ≤ I
  frm : Frm (GeS W1.heap.size) W1 wr
  old : ∀ k, k < W1.heap.size → tg k = 0
  mb0 : tg mb = 0
  mbw : W1.heap.size ≤ mb
theorem PlaysInv.frm1 {tg : Nat → Nat} {W1 wr W : World} {q bl T mb : Nat} {B I : Int} {mm : Nat → List QI} (h : PlaysInv tg W1 wr q bl T mb B I mm) (hf : Frm NoS wr W) : PlaysInv tg W1 W q bl T mb B I mm where
  q := h.q.frm hf (fun _ _ _ h => h)
  m := h.m.frm h.q.T1.1 hf (fun _ _ _ h => h) (fun _ h => h)
  len := h.len
  frm := h.frm.trans (hf.mono (fun _ _ _ h => h.elim))
  old := h.old
  mb0 := h.mb0
  mbw := h.mbw
theorem PlaysInv.step {tg tg' : Nat → Nat} {W1 wr w' : World} {q bl T mb : Nat} {B I : Int} {mm mm' : Nat → List QI} (h : PlaysInv tg W1 wr q bl T mb B I mm) (hq : QRep tg' w' q bl T B I mm') (hm : MRep (okM tg' mb) w' mb T mm') (ht : ∀ k, k < wr.heap.size → tg' k = tg k)
    (hf : Frm (fun k _ => tg k ≠ 0 ∨ k = mb) wr w') (hl : ∀ t, t < T → ((mm' t).length : Int) ≤ I) : PlaysInv tg' W1 w' q bl T mb B I mm' where
  q := hq
  m := hm
  len := hl
  frm := h.frm.trans (hf.mono (fun k j hk hS => by
    rcases hS with h1 | h1
    · rcases Nat.lt_or_ge k W1.heap.size with h2 | h2
      · exact absurd (h.old k h2) h1
      · exact h2
    · rw [h1]; exact h.mbw))
  old := fun k hk => by rw [ht k (Nat.lt_of_lt_of_le hk h.frm.size)]; exact h.old k hk
  mb0 := by
    obtain ⟨v, hv, _⟩ := h.m.cell 0 h.q.T1.1
    rw [ht mb (show mb < wr.heap.size from World.block_lt_of_cell? wr _ hv)]; exact h.mb0
  mbw := h.mbw
def PlaysRel (l : Nat) (W1 : World) (q bl T mb : Nat) (B I : Int) (i : Value) (wr : World) : Prop :=
  ∃ (k : Nat) (tg : Nat → Nat) (mm : Nat → List QI), k ≤ l ∧ i = .int .i64 (k : Int) ∧ PlaysInv tg W1 wr q bl T mb B I mm
def LookRel (T : Nat) (w6 : World) (i : Value) (wr : World) : Prop := ∃ j : Nat, j ≤ T ∧ i = .int .i64 (j : Int) ∧ Frm NoS w6 wr
set_option maxRecDepth 100000 in
set_option maxHeartbeats 6400000 in
theorem plays_no {ok : Nat → Prop} {v : Value} (T B I : Int) (l : List OpD) (w : World) (h : OpsIn ok w v l) (hn : ¬ newOK T B I) : Calls Try.prog 8 #[.agg #[.int .i64 T, .int .i64 B, .int .i64 I, v]] w fun e w' => e = .returned (.bool true) ∧ Below w.heap.size w w' := by
  have HO : Hid (∀ W, Frm NoS w W → OpsIn ok W v l) := fun W hf => h.frm hf (fun _ _ _ h => h)
  obtain ⟨A, cap, rfl, hl, hc⟩ := h
  clear hc
  have HR := Lib.hid (right_any T B I l (w.alloc (.cells #[.int .i64 T, .int .i64 B, .int .i64 I, .slice A l.length cap] 71)) (HO.out _ (Frm.alloc (Frm.refl _ _) _)))
  go_enter Try.func8, Try.ntmps8
  go_wp2_with fail
  refine HR.out.mono ?_
  rintro r w2 ⟨b, rfl, hbo, hb2⟩
  obtain rfl : b = false := by cases b with
    | false => rfl
    | true => exact absurd (hbo rfl) hn
  have HB2 := Lib.hid hb2
  clear hb2 hbo hn HR
  go_wp2_with (go_at_call 31; refine (awake18_any _).mono ?_; rintro r w4 ⟨rfl, hb4⟩; have HB4 := Lib.hid hb4; clear hb4)
  go_ret
  exact ⟨rfl, bl_then (bl_then (bl_alloc (Below.refl _ _) _) HB2.out) HB4.out⟩
set_option maxRecDepth 100000 in
set_option maxHeartbeats 12800000 in
theorem plays_yes {ok : Nat → Prop} {v : Value} (T : Nat) (B I : Int) (l : List OpD) (w : World) (h : OpsIn ok w v l) (hokw : ∀ k, ok k → k < w.heap.size) (hn : newOK T B I) : Calls Try.prog 8 #[.agg #[.int .i64 (T : Int), .int .i64 B, .int .i64 I, v]] w fun e w' => e = .returned (.bool true) ∧ Below w.heap.size w w' := by
  have HO : Hid (∀ W, Frm NoS w W → OpsIn ok W v l) := fun W hf => h.frm hf (fun _ _ _ h => h)
  obtain ⟨A, cap, rfl, hl, hc⟩ := h
  clear hc
  have HN := Lib.hid hn
  obtain ⟨⟨t1, t2⟩, ⟨b1, b2⟩, ⟨i1, i2⟩⟩ := hn
  obtain ⟨W1, hW1⟩ : ∃ W1, W1 = w.alloc (.cells #[.int .i64 (T : Int), .int .i64 B, .int .i64 I, .slice A l.length cap] 71) := ⟨_, rfl⟩
  have hF1 : Frm NoS w W1 := by rw [hW1]; exact Frm.alloc (Frm.refl _ _) _
  have g0 : W1.cell? ⟨w.heap.size, 0, none⟩ = some (.int .i64 (T : Int)) := by rw [hW1]; exact World.cell?_alloc_at _ _ _ _ rfl
  have g1 : W1.cell? ⟨w.heap.size, 1, none⟩ = some (.int .i64 B) := by rw [hW1]; exact World.cell?_alloc_at _ _ _ _ rfl
  have g2 : W1.cell? ⟨w.heap.size, 2, none⟩ = some (.int .i64 I) := by rw [hW1]; exact World.cell?_alloc_at _ _ _ _ rfl
  have g3 : W1.cell? ⟨w.heap.size, 3, none⟩ = some (.slice A l.length cap) := by rw [hW1]; exact World.cell?_alloc_at _ _ _ _ rfl
  have HG := Lib.hid (And.intro g0 (And.intro g1 (And.intro g2 g3)))
  have HF1 := Lib.hid hF1
  have HO1 := Lib.hid (HO.out _ hF1)
  have hzlt : w.heap.size < W1.heap.size := World.block_lt_of_cell? W1 _ g0
  clear g0 g1 g2 g3 hF1 HO
  have HR := Lib.hid (right_any T B I l W1 HO1.out)
  go_enter Try.func8, Try.ntmps8
  go_wp2_with fail
  rw [← hW1]
  clear hW1
  refine HR.out.mono ?_
  clear HR
  rintro r w2 ⟨b, rfl, -, hb2⟩
  have hF2 := Frm.of_below (S := NoS) hb2
  have HF2 := Lib.hid hF2
  have HG2 := Lib.hid (And.intro (hF2.keep HG.out.1 (fun h => h)) (And.intro (hF2.keep HG.out.2.1 (fun h => h)) (And.intro (hF2.keep HG.out.2.2.1 (fun h => h)) (hF2.keep HG.out.2.2.2 (fun h => h)))))
  clear hb2 hF2
  cases b with
  | false =>
    go_wp2_with (go_at_call 31; refine (awake18_any _).mono ?_; rintro r w4 ⟨rfl, hb4⟩; have HB4 := Lib.hid hb4; clear hb4)
    go_ret
    exact ⟨rfl, bl_then (HF1.out.trans HF2.out).no HB4.out⟩
  | true =>
    obtain ⟨g0, g1, g2, g3⟩ := HG2.out
    go_wp2_with fail
    refine (new_yes T B I w2 HN.out).mono ?_
    clear g0 g1 g2 g3
    rintro r w3 ⟨q, bl, tg, rfl, hq, htg, hb3⟩
    rw [show (T : Int).toNat = T from by omega] at hq
    have hF3 := Frm.of_below (S := NoS) hb3
    have HG3 := Lib.hid (And.intro (hF3.keep HG2.out.1 (fun h => h)) (And.intro (hF3.keep HG2.out.2.1 (fun h => h)) (And.intro (hF3.keep HG2.out.2.2.1 (fun h => h)) (hF3.keep HG2.out.2.2.2 (fun h => h)))))
    have hz12 : W1.heap.size ≤ w2.heap.size := HF2.out.size
    have hz23 : w2.heap.size ≤ w3.heap.size := hF3.size
    have HINV0 : Hid (∀ E, PlaysInv tg W1 (w3.alloc (.cells (madeCells #[.slice none 0 0] T) E)) q bl T w3.heap.size B I (fun _ => [])) := fun E => {
      q := hq.frm (Frm.alloc (Frm.refl NoS _) _) (fun _ _ _ h => h)
      m := MRep.new w3 T E
      len := fun t ht => by simp; omega
      frm := (((HF2.out.trans hF3).alloc _)).mono (fun _ _ _ h => h.elim)
      old := fun k hk => by
        by_cases e : tg k = 0
        · exact e
        · have := htg k e; omega
      mb0 := hq.tz _ (Nat.le_refl _)
      mbw := by omega }
    clear hb3 hq htg hF3
    obtain ⟨i0, hi, hz0, hz1, hz2⟩ := info_parts Try.infoRefs
    have hmk := run_make (P := Try.prog) w3 74 78 i0 _ Try.underlying74 hi hz0 .i64 .i64 (T : Int) (T : Int) (by omega) (Int.le_refl _) (by rw [hz2]; omega) (by omega)
    rw [hz1] at hmk
    obtain ⟨g0, g1, g2, g3⟩ := HG3.out
    have hlw : w.heap.size < w3.heap.size := World.block_lt_of_cell? w3 _ g0
    obtain ⟨⟨mne, mne1, mne2, mne3, mne4, mne5⟩, mlt1, mlt2, mlt3, mlt4, mlt5⟩ := ne_new hlw
    go_wp2_with fail
    have HINV := Lib.hid (HINV0.out 78)
    generalize w3.alloc (.cells (madeCells #[.slice none 0 0] T) 78) = W4 at *
    generalize w3.heap.size = mb at *
    clear hmk g0 g1 g2 g3 mne mne1 mne2 mne3 mne4 mne5 mlt1 mlt2 mlt3 mlt4 mlt5 HINV0 HG2 HG3 hlw
    go_loopw [35] (fun i wr => PlaysRel l.length W1 q bl T mb B I i wr) (fun i _ => l.length - (intOf i).toNat)
    case atStart => exact ⟨0, tg, fun _ => [], Nat.zero_le _, rfl, HINV.out⟩
    case round =>
      obtain ⟨k, tg', mm, hk, rfl, hinv⟩ := hrel
      have hnz : ∀ j, ¬ GeS W1.heap.size w.heap.size j := fun j hS => by have h1 : W1.heap.size ≤ w.heap.size := hS; omega
      have g0 := hinv.frm.keep HG.out.1 (hnz _)
      have g1 := hinv.frm.keep HG.out.2.1 (hnz _)
      have g2 := hinv.frm.keep HG.out.2.2.1 (hnz _)
      have g3 := hinv.frm.keep HG.out.2.2.2 (hnz _)
      have HI := Lib.hid hinv
      by_cases hlt : k < l.length
      · obtain ⟨A', cap', he, _, hc⟩ := HO1.out.frm hinv.frm (fun k j hk hS => by have h1 : W1.heap.size ≤ k := hS; have := hokw k hk; omega)
        simp only [Value.slice.injEq] at he
        obtain ⟨rfl, _, rfl⟩ := he
        obtain ⟨b, o, rfl, hok, hi⟩ := hc (by omega)
        obtain ⟨hv, bv, h0, h1, h2, h3, h4, h5, h6, h7⟩ := hi k _ (List.getElem?_eq_getElem hlt)
        generalize l[k] = op at *
        have HB6 := Lib.hid h6
        have HB7 := Lib.hid h7
        obtain ⟨A1, c1, rfl, _⟩ := h6
        obtain ⟨A2, c2, rfl, _⟩ := h7
        have hlw : w.heap.size < wr.heap.size := World.block_lt_of_cell? wr _ g0
        obtain ⟨⟨mne, mne1, mne2, mne3, mne4, mne5⟩, mlt1, mlt2, mlt3, mlt4, mlt5⟩ := ne_new hlw
        obtain ⟨W5, hW5⟩ : ∃ W5, W5 = wr.alloc (.cells #[.int .i64 op.kind, .int .i64 op.t, .int .i64 op.n, .int .i64 op.x.num, .slice A1 op.x.h.length c1, .slice A2 op.x.b.length c2] 76) := ⟨_, rfl⟩
        have hF5 : Frm NoS wr W5 := by rw [hW5]; exact Frm.alloc (Frm.refl _ _) _
        have HI5 := Lib.hid (hinv.frm1 hF5)
        have HST := Lib.hid (step_any (zv := .slice (some ⟨b, o, none⟩) l.length cap) op W5 HI5.out.q HI5.out.m (fun _ h => h) HI5.out.mb0 (HB6.out.frm hF5 (fun _ _ _ h => h)) (HB7.out.frm hF5 (fun _ _ _ h => h)) HI5.out.len)
        clear hinv hc hi hF5 hnz
        go_wp2_with fail
        rw [← hW5]
        refine HST.out.mono ?_
        rintro r w6 ⟨tg6, rfl, hq6, hm6, ht6, hf6, hl6⟩
        have HI6 := Lib.hid (HI5.out.step hq6 (hm6.mono (fun _ _ h => ⟨h.1, h.2.1⟩)) ht6 hf6 hl6)
        clear hq6 hm6 ht6 hf6 hl6 HST HI5 hW5 g0 g1 g2 g3 mne mne1 mne2 mne3 mne4 mne5 mlt1 mlt2 mlt3 mlt4 mlt5 hlw h0 h1 h2 h3 h4 h5 HB6 HB7
        generalize stepL T B I mm op = m6 at *
        go_wp2_with fail
        obtain ⟨wo, rfl⟩ : ∃ wo : World, wo = wr := ⟨_, rfl⟩
        have hnz : ∀ j, ¬ GeS W1.heap.size w.heap.size j := fun j hS => by have h1 : W1.heap.size ≤ w.heap.size := hS; omega
        have g1 := HI6.out.frm.keep HG.out.2.1 (hnz _)
        have g2 := HI6.out.frm.keep HG.out.2.2.1 (hnz _)
        clear hnz
        go_loopw [47] (fun i wr => LookRel T w6 i wr) (fun i _ => T - (intOf i).toNat)
        case atStart => exact ⟨0, Nat.zero_le _, rfl, Frm.refl _ _⟩
        case round =>
          obtain ⟨j, hj, rfl, hf⟩ := hrel
          by_cases hjt : j < T
          · obtain ⟨w7, rfl⟩ : ∃ w7 : World, w7 = wr := ⟨_, rfl⟩
            have g1 := hf.keep g1 (fun h => h)
            have g2 := hf.keep g2 (fun h => h)
            have hinv := HI6.out.frm1 hf
            obtain ⟨vm, hcv, hrv⟩ := hinv.m.cell j hjt
            have hmat : mAt m6 T (j : Int) = m6 j := by simp [mAt, hjt]
            have hqb : qbytes (m6 j) ≤ B := hinv.q.lim j hjt
            have hqn := qbytes_nn (m6 j)
            have hlI : ((m6 j).length : Int) ≤ I := hinv.len j hjt
            have HLEN : Hid (∀ W, Frm NoS w7 W → Calls Try.prog 39 #[.pointer (some ⟨q, 0, none⟩), .int .i64 (j : Int)] W fun r w' => r = .returned (.int .i64 ((m6 j).length : Int)) ∧ W = w') := fun W hf => by
              have := len_any (j : Int) W (hinv.q.frm hf (fun _ _ _ h => h))
              rwa [hmat] at this
            have HBYT : Hid (∀ W, Frm NoS w7 W → Calls Try.prog 42 #[.pointer (some ⟨q, 0, none⟩), .int .i64 (j : Int)] W fun r w' => r = .returned (.int .i64 (qbytes (m6 j))) ∧ W = w') := fun W hf => by
              have := bytes_any (j : Int) W (hinv.q.frm hf (fun _ _ _ h => h))
              rwa [hmat] at this
            have HSIZ : Hid (∀ W, Frm NoS w7 W → Calls Try.prog 43 #[vm] W fun e w' => e = .returned (.int .i64 (qbytes (m6 j))) ∧ ∃ d, w' = W.drewN d) := fun W hf => refSize_any W (hrv.frm hf (fun _ _ _ h => h)) (by omega)
            have hvs : ∃ Av cv, vm = .slice Av (m6 j).length cv := by obtain ⟨Av, cv, rfl, _⟩ := hrv; exact ⟨Av, cv, rfl⟩
            obtain ⟨Av, cv, rfl⟩ := hvs
            have HF := Lib.hid hf
            clear hinv hrv hmat hf
            generalize (m6 j).length = ml at *
            generalize qbytes (m6 j) = qb at *
            have hd1 : decide (B < qb) = false := by simp; omega
            have hd2 : decide (I < (ml : Int)) = false := by simp; omega
            have KEEP : Hid (∀ w', Frm NoS w7 w' → w'.cell? ⟨mb, j, none⟩ = some (.slice Av ml cv) ∧ w'.cell? ⟨w.heap.size, 1, none⟩ = some (.int .i64 B) ∧ w'.cell? ⟨w.heap.size, 2, none⟩ = some (.int .i64 I) ∧ Frm NoS w7 w') := fun w' hf => ⟨hf.keep hcv (fun h => h), hf.keep g1 (fun h => h), hf.keep g2 (fun h => h), hf⟩
            go_wp2_with fail
            go_region_held3 (fun w' => w'.cell? ⟨mb, j, none⟩ = some (.slice Av ml cv) ∧ w'.cell? ⟨w.heap.size, 1, none⟩ = some (.int .i64 B) ∧ w'.cell? ⟨w.heap.size, 2, none⟩ = some (.int .i64 I) ∧ Frm NoS w7 w') ((first | assumption | exact hN5 | (refine KEEP.out _ ?_; exact (Frm.refl NoS w7).drew))) (first | (go_at_call 39; have hS := ‹_ ∧ _ ∧ _ ∧ Frm NoS w7 _›.2.2.2; refine (HLEN.out _ hS).mono ?_; clear hS; rintro r w' ⟨rfl, rfl⟩) | (go_at_call 42; have hS := ‹_ ∧ _ ∧ _ ∧ Frm NoS w7 _›.2.2.2; refine (HBYT.out _ hS).mono ?_; clear hS; rintro r w' ⟨rfl, rfl⟩) | (go_at_call 43; have hS := ‹_ ∧ _ ∧ _ ∧ Frm NoS w7 _›.2.2.2; refine (HSIZ.out _ hS).mono ?_; rintro r w8 ⟨rfl, d, hw8⟩; have hN5 := KEEP.out w8 (by rw [hw8]; exact hS.drewN d); clear hS hw8))
            have HN := Lib.hid ‹_ ∧ _ ∧ _ ∧ Frm NoS w7 _›.2.2.2
            go_wp2_with fail
            go_roundw
            case measure => simp [intOf]; omega
            case rel => exact ⟨j + 1, by omega, by go_num, HF.out.trans HN.out⟩
          · obtain rfl : j = T := by omega
            have HI7 := Lib.hid (HI6.out.frm1 hf)
            clear hf
            go_wp2_with fail
            go_roundw
            case measure => simp [intOf]; omega
            case rel => exact ⟨k + 1, tg6, m6, by omega, by go_num, HI7.out⟩
      · obtain rfl : k = l.length := by omega
        have HF : Hid (Frm NoS w wr) := HF1.out.then_ hinv.frm (fun b j hb hS => by have h1 : W1.heap.size ≤ b := hS; omega)
        clear hinv hnz
        go_wp2_with (go_at_call 31; refine (awake18_any _).mono ?_; rintro r w4 ⟨rfl, hb4⟩; have HB4 := Lib.hid hb4; clear hb4)
        go_ret
        exact ⟨rfl, bl_then HF.out.no HB4.out⟩
theorem plays_any {ok : Nat → Prop} {v : Value} (T B I : Int) (l : List OpD) (w : World) (h : OpsIn ok w v l) (hokw : ∀ k, ok k → k < w.heap.size) : Calls Try.prog 8 #[.agg #[.int .i64 T, .int .i64 B, .int .i64 I, v]] w fun e w' => e = .returned (.bool true) ∧ Below w.heap.size w w' := by
  by_cases hn : newOK T B I
  · have ht : ((T.toNat : Nat) : Int) = T := by have := hn.1.1; omega
    have := plays_yes T.toNat B I l w h hokw (by rw [ht]; exact hn)
    rwa [ht] at this
  · exact plays_no T B I l w h hn
end Go.Proofs.Ytpihldeikdiniaa
