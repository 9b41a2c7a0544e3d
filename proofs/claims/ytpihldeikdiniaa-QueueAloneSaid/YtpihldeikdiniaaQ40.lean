/- Package squintlaw18: QueueAlone, walked. -/
import Derived.Test.YtpihldeikdiniaaQ39
namespace Go.Proofs.Ytpihldeikdiniaa
open Go.RowKit
set_option linter.unusedVariables false
set_option linter.unusedSimpArgs false
def okA (tp tq : Nat → Nat) (mb : Nat) : Nat → Prop := fun k => tp k = 0 ∧ tq k = 0 ∧ k ≠ mb
def PS (tp : Nat → Nat) : Nat → Nat → Prop := fun k _ => tp k ≠ 0
structure AloneInv (tp tq : Nat → Nat) (W1 wr : World) (p bp q bq T mb t : Nat) (B I : Int) (mm mq : Nat → List QI) : Prop where
  qp : QRep tp wr p bp T B I mm
  qq : QRep tq wr q bq T B I mq
  m : MRep (okA tp tq mb) wr mb T mm
  same : mq t = mm t
  len : ∀ s, s < T → ((mm s).length : Int) ≤ I
  frm : Frm (GeS W1.heap.size) W1 wr
  oldp : ∀ k, k < W1.heap.size → tp k = 0
  oldq : ∀ k, k < W1.heap.size → tq k = 0
  dis : ∀ k, tp k ≠ 0 → tq k = 0
  mp : tp mb = 0
  mq : tq mb = 0
  mbw : W1.heap.size ≤ mb
theorem AloneInv.frm1 {tp tq : Nat → Nat} {W1 wr W : World} {p bp q bq T mb t : Nat} {B I : Int} {mm mq : Nat → List QI} (h : AloneInv tp tq W1 wr p bp q bq T mb t B I mm mq) (hf : Frm NoS wr W) : AloneInv tp tq W1 W p bp q bq T mb t B I mm mq where
  qp := h.qp.frm hf (fun _ _ _ h => h)
  qq := h.qq.frm hf (fun _ _ _ h => h)
  m := h.m.frm h.qp.T1.1 hf (fun _ _ _ h => h) (fun _ h => h)
  same := h.same
  len := h.len
  frm := h.frm.trans (hf.mono (fun _ _ _ h => h.elim))
  oldp := h.oldp
  oldq := h.oldq
  dis := h.dis
  mp := h.mp
  mq := h.mq
  mbw := h.mbw
theorem AloneInv.mlt {tp tq : Nat → Nat} {W1 wr : World} {p bp q bq T mb t : Nat} {B I : Int} {mm mq : Nat → List QI} (h : AloneInv tp tq W1 wr p bp q bq T mb t B I mm mq) : mb < wr.heap.size := by
  obtain ⟨v, hv, _⟩ := h.m.cell 0 h.qp.T1.1
  exact World.block_lt_of_cell? wr _ hv
/-- Another tenant's step of the first queue. -/
theorem AloneInv.step {tp tp' tq : Nat → Nat} {W1 wr w' : World} {p bp q bq T mb t : Nat} {B I : Int} {mm mq mm' : Nat → List QI} (h : AloneInv tp tq W1 wr p bp q bq T mb t B I mm mq) (hq : QRep tp' w' p bp T B I mm') (hm : MRep (okN tp' (okA tp tq mb) mb wr.heap.size) w' mb T mm') (ht : ∀ k, k < wr.heap.size → tp' k = tp k)
    (hf : Frm (fun k _ => tp k ≠ 0 ∨ k = mb) wr w') (hl : ∀ s, s < T → ((mm' s).length : Int) ≤ I) (hs : mm' t = mm t) : AloneInv tp' tq W1 w' p bp q bq T mb t B I mm' mq where
  qp := hq
  qq := h.qq.frm hf (fun k j hk hS => by
    rcases hS with h1 | h1
    · exact hk (h.dis k h1)
    · exact hk (by rw [h1]; exact h.mq))
  m := hm.mono (fun k _ hk => ⟨hk.1, by
    rcases hk.2.2 with h1 | h1
    · exact h1.2.1
    · exact h.qq.tz k h1, hk.2.1⟩)
  same := by rw [hs]; exact h.same
  len := hl
  frm := h.frm.trans (hf.mono (fun k j hk hS => by
    rcases hS with h1 | h1
    · rcases Nat.lt_or_ge k W1.heap.size with h2 | h2
      · exact absurd (h.oldp k h2) h1
      · exact h2
    · rw [h1]; exact h.mbw))
  oldp := fun k hk => by rw [ht k (Nat.lt_of_lt_of_le hk h.frm.size)]; exact h.oldp k hk
  oldq := h.oldq
  dis := fun k hk => by
    rcases Nat.lt_or_ge k wr.heap.size with h2 | h2
    · rw [ht k h2] at hk; exact h.dis k hk
    · exact h.qq.tz k h2
  mp := by rw [ht mb h.mlt]; exact h.mp
  mq := h.mq
  mbw := h.mbw
/-- The tenant's own call, of both. -/
theorem AloneInv.own {tp tp' tq tq' : Nat → Nat} {W1 wr w6 w7 : World} {p bp q bq T mb t : Nat} {B I : Int} {mm mq : Nat → List QI} {v6 : Value} {l' : List QI} (h : AloneInv tp tq W1 wr p bp q bq T mb t B I mm mq) (htT : t < T)
    (hr6 : RefIn (fun k => tp' k = 0 ∧ (okA tp tq mb k ∨ wr.heap.size ≤ k)) w6 v6 l') (hq6 : QRep tp' w6 p bp T B I (upd mm t l')) (ht6 : ∀ k, k < wr.heap.size → tp' k = tp k) (hf6 : Frm (fun k _ => tp k = 2 ∨ tp k = 4 + t) wr w6) (hl6 : (l'.length : Int) ≤ I)
    (hq7 : QRep tq' w7 q bq T B I (upd mq t l')) (ht7 : ∀ k, k < w6.heap.size → tq' k = tq k) (hf7 : Frm (fun k _ => tq k = 2 ∨ tq k = 4 + t) w6 w7) :
    AloneInv tp' tq' W1 (w7.setCell ⟨mb, t, none⟩ v6) p bp q bq T mb t B I (upd mm t l') (upd mq t l') := by
  have hz6 := hf6.size
  have hmlt := h.mlt
  have hmp : tp' mb = 0 := by rw [ht6 mb hmlt]; exact h.mp
  have hmq : tq' mb = 0 := by rw [ht7 mb (by omega)]; exact h.mq
  have hset : Frm (fun k _ => k = mb) w7 (w7.setCell ⟨mb, t, none⟩ v6) := (Frm.refl _ _).set_old (p := ⟨mb, t, none⟩) rfl _
  have hdis6 : ∀ k, tp' k ≠ 0 → tq k = 0 := fun k hk => by
    rcases Nat.lt_or_ge k wr.heap.size with h2 | h2
    · rw [ht6 k h2] at hk; exact h.dis k hk
    · exact h.qq.tz k h2
  have hp7 : QRep tp' w7 p bp T B I (upd mm t l') := hq6.frm hf7 (fun k j hk hS => by have := hdis6 k hk; omega)
  have hM6 : MRep (fun k => okA tp tq mb k ∧ tp' k = 0) w6 mb T mm := (h.m.mono (fun k hk h1 => (⟨h1, by rw [ht6 k hk]; exact h1.1⟩ : okA tp tq mb k ∧ tp' k = 0))).frm h.qp.T1.1 hf6 (fun k j hk hS => by have := hk.1.1; omega) (fun j hS => by have := h.mp; omega)
  have hM7 : MRep (okA tp' tq' mb) w7 mb T mm := ((hM6.mono (fun k hk h1 => (⟨h1, by rw [ht7 k hk]; exact h1.1.2.1⟩ : (okA tp tq mb k ∧ tp' k = 0) ∧ tq' k = 0))).frm h.qp.T1.1 hf7 (fun k j hk hS => by have := hk.1.1.2.1; omega) (fun j hS => by have := h.mq; omega)).mono (fun k _ hk => ⟨hk.1.2, hk.2, hk.1.1.2.2⟩)
  have hR6 : RefIn (fun k => tp' k = 0 ∧ tq' k = 0 ∧ tq k = 0 ∧ k ≠ mb) w6 v6 l' := hr6.mono (fun k hk h1 => by
    have e : tq k = 0 := by
      rcases h1.2 with h2 | h2
      · exact h2.2.1
      · exact h.qq.tz k h2
    exact ⟨h1.1, by rw [ht7 k hk]; exact e, e, fun e2 => by
      rcases h1.2 with h2 | h2
      · exact h2.2.2 e2
      · omega⟩)
  have hR7 : RefIn (okA tp' tq' mb) w7 v6 l' := (hR6.frm hf7 (fun k j hk hS => by have := hk.2.2.1; omega)).mono (fun k _ hk => ⟨hk.1, hk.2.1, hk.2.2.2⟩)
  exact {
    qp := hp7.frm hset (fun k j hk e => hk (by rw [e]; exact hmp))
    qq := hq7.frm hset (fun k j hk e => hk (by rw [e]; exact hmq))
    m := hM7.set htT hR7 (fun h => h.2.2 rfl)
    same := by simp [upd]
    len := fun s hs => by
      unfold upd
      split
      · exact hl6
      · exact h.len s hs
    frm := ((h.frm.trans (hf6.mono (fun k j hk hS => by
      rcases Nat.lt_or_ge k W1.heap.size with h2 | h2
      · have := h.oldp k h2; omega
      · exact h2))).trans (hf7.mono (fun k j hk hS => by
      rcases Nat.lt_or_ge k W1.heap.size with h2 | h2
      · have := h.oldq k h2; omega
      · exact h2))).trans (hset.mono (fun k j _ e => by rw [show k = mb from e]; exact h.mbw))
    oldp := fun k hk => by rw [ht6 k (Nat.lt_of_lt_of_le hk h.frm.size)]; exact h.oldp k hk
    oldq := fun k hk => by rw [ht7 k (Nat.lt_of_lt_of_le hk (Nat.le_trans h.frm.size hz6))]; exact h.oldq k hk
    dis := fun k hk => by
      rcases Nat.lt_or_ge k w6.heap.size with h2 | h2
      · rw [ht7 k h2]; exact hdis6 k hk
      · exact absurd (hq6.tz k h2) hk
    mp := hmp
    mq := hmq
    mbw := h.mbw }
def AloneRel (l : Nat) (W1 : World) (p bp q bq T mb t : Nat) (B I : Int) (i : Value) (wr : World) : Prop :=
  ∃ (k : Nat) (tp tq : Nat → Nat) (mm mq : Nat → List QI), k ≤ l ∧ i = .int .i64 (k : Int) ∧ AloneInv tp tq W1 wr p bp q bq T mb t B I mm mq
set_option maxRecDepth 100000 in
set_option maxHeartbeats 6400000 in
theorem alone_no {ok : Nat → Prop} {v : Value} (T B I t : Int) (l : List OpD) (w : World) (h : OpsIn ok w v l) (hn : ¬ (newOK T B I ∧ 0 ≤ t ∧ t < T)) : Calls Try.prog 9 #[.agg #[.int .i64 T, .int .i64 B, .int .i64 I, v], .int .i64 t] w fun e w' => e = .returned (.bool true) ∧ Below w.heap.size w w' := by
  have HO : Hid (∀ W, Frm NoS w W → OpsIn ok W v l) := fun W hf => h.frm hf (fun _ _ _ h => h)
  obtain ⟨A, cap, rfl, hl, hc⟩ := h
  clear hc
  obtain ⟨W1, hW1⟩ : ∃ W1, W1 = w.alloc (.cells #[.int .i64 T, .int .i64 B, .int .i64 I, .slice A l.length cap] 71) := ⟨_, rfl⟩
  have hF1 : Frm NoS w W1 := by rw [hW1]; exact Frm.alloc (Frm.refl _ _) _
  have g0 : W1.cell? ⟨w.heap.size, 0, none⟩ = some (.int .i64 T) := by rw [hW1]; exact World.cell?_alloc_at _ _ _ _ rfl
  have HR := Lib.hid (right_any T B I l W1 (HO.out _ hF1))
  have HF1 := Lib.hid hF1
  have HG := Lib.hid g0
  clear g0 hF1
  go_enter Try.func9, Try.ntmps9
  go_wp2_with fail
  rw [← hW1]
  clear hW1
  refine HR.out.mono ?_
  clear HR
  rintro r w2 ⟨b, rfl, hbo, hb2⟩
  have g0 := (Frm.of_below (S := NoS) hb2).keep HG.out (fun h => h)
  have HB2 := Lib.hid hb2
  clear hb2
  cases b with
  | false =>
    clear hn hbo
    go_wp2_with (go_at_call 31; refine (awake18_any _).mono ?_; rintro r w4 ⟨rfl, hb4⟩; have HB4 := Lib.hid hb4; clear hb4)
    go_ret
    exact ⟨rfl, bl_then (bl_then HF1.out.no HB2.out) HB4.out⟩
  | true =>
    have hok := hbo rfl
    have ht : t < 0 ∨ (¬ t < 0 ∧ T ≤ t) := by
      rcases Int.lt_or_le t 0 with h1 | h1
      · exact .inl h1
      · rcases Int.lt_or_le t T with h2 | h2
        · exact absurd ⟨hok, h1, h2⟩ hn
        · exact .inr ⟨by omega, h2⟩
    clear hn hbo hok
    rcases ht with ht | ⟨ht0, ht⟩
    all_goals
      go_wp2_with (go_at_call 31; refine (awake18_any _).mono ?_; rintro r w4 ⟨rfl, hb4⟩; have HB4 := Lib.hid hb4; clear hb4)
      go_ret
      exact ⟨rfl, bl_then (bl_then HF1.out.no HB2.out) HB4.out⟩
set_option maxRecDepth 100000 in
set_option maxHeartbeats 12800000 in
theorem alone_yes {ok : Nat → Prop} {v : Value} (T t : Nat) (B I : Int) (l : List OpD) (w : World) (h : OpsIn ok w v l) (hokw : ∀ k, ok k → k < w.heap.size) (hn : newOK T B I) (htT : t < T) : Calls Try.prog 9 #[.agg #[.int .i64 (T : Int), .int .i64 B, .int .i64 I, v], .int .i64 (t : Int)] w fun e w' => e = .returned (.bool true) ∧ Below w.heap.size w w' := by
  have HO : Hid (∀ W, Frm NoS w W → OpsIn ok W v l) := fun W hf => h.frm hf (fun _ _ _ h => h)
  obtain ⟨A, cap, rfl, hl, hc⟩ := h
  clear hc
  have HN := Lib.hid hn
  obtain ⟨⟨t1, t2⟩, ⟨b1, b2⟩, ⟨i1, i2⟩⟩ := hn
  obtain ⟨W1, hW1⟩ : ∃ W1, W1 = w.alloc (.cells #[.int .i64 (T : Int), .int .i64 B, .int .i64 I, .slice A l.length cap] 71) := ⟨_, rfl⟩
  have hF1 : Frm NoS w W1 := by rw [hW1]; exact Frm.alloc (Frm.refl _ _) _
  have g0 : W1.cell? ⟨w.heap.size, 0, none⟩ = some (.int .i64 (T : Int)) := by rw [hW1]; exact World.cell?_alloc_at _ _ _ _ rfl
  have g1 : W1.cell? ⟨w.heap.size, 1, none⟩ = some (.int .i64 B) := by rw [hW1]; exact World.cell?_alloc_at _ _ _ _ rfl
  have g2 : W1.cell? ⟨w.heap.size, 2, none⟩ = some (.int .i64 I) := by rw [hW1]; exact World.cell?_alloc_at _ _ _ _ rfl
  have g3 : W1.cell? ⟨w.heap.size, 3, none⟩ = some (.slice A l.length cap) := by rw [hW1]; exact World.cell?_alloc_at _ _ _ _ rfl
  have HG := Lib.hid (And.intro g0 (And.intro g1 (And.intro g2 g3)))
  have HF1 := Lib.hid hF1
  have HO1 := Lib.hid (HO.out _ hF1)
  have hzlt : w.heap.size < W1.heap.size := World.block_lt_of_cell? W1 _ g0
  clear g0 g1 g2 g3 hF1 HO
  have HR := Lib.hid (right_any T B I l W1 HO1.out)
  go_enter Try.func9, Try.ntmps9
  go_wp2_with fail
  rw [← hW1]
  clear hW1
  refine HR.out.mono ?_
  clear HR
  rintro r w2 ⟨b, rfl, -, hb2⟩
  have hF2 := Frm.of_below (S := NoS) hb2
  have HF2 := Lib.hid hF2
  have KG : Hid (∀ W, Frm NoS W1 W → W.cell? ⟨w.heap.size, 0, none⟩ = some (.int .i64 (T : Int)) ∧ W.cell? ⟨w.heap.size, 1, none⟩ = some (.int .i64 B) ∧ W.cell? ⟨w.heap.size, 2, none⟩ = some (.int .i64 I) ∧ W.cell? ⟨w.heap.size, 3, none⟩ = some (.slice A l.length cap)) := fun W hf => ⟨hf.keep HG.out.1 (fun h => h), hf.keep HG.out.2.1 (fun h => h), hf.keep HG.out.2.2.1 (fun h => h), hf.keep HG.out.2.2.2 (fun h => h)⟩
  clear hb2 hF2
  cases b with
  | false =>
    go_wp2_with (go_at_call 31; refine (awake18_any _).mono ?_; rintro r w4 ⟨rfl, hb4⟩; have HB4 := Lib.hid hb4; clear hb4)
    go_ret
    exact ⟨rfl, bl_then (HF1.out.trans HF2.out).no HB4.out⟩
  | true =>
    obtain ⟨g0, g1, g2, g3⟩ := KG.out _ HF2.out
    go_wp2_with fail
    refine (new_yes T B I w2 HN.out).mono ?_
    clear g0 g1 g2 g3
    rintro r w3 ⟨p, bp, tp, rfl, hp, htp, hb3⟩
    rw [show (T : Int).toNat = T from by omega] at hp
    have hF3 := Frm.of_below (S := NoS) hb3
    have HF3 := Lib.hid (HF2.out.trans hF3)
    have hz23 : w2.heap.size ≤ w3.heap.size := hF3.size
    have HP := Lib.hid hp
    have HTP := Lib.hid htp
    clear hb3 hp htp hF3
    obtain ⟨g0, g1, g2, g3⟩ := KG.out _ HF3.out
    go_wp2_with fail
    refine (new_yes T B I w3 HN.out).mono ?_
    clear g0 g1 g2 g3
    rintro r w4 ⟨q, bq, tq, rfl, hq, htq, hb4⟩
    rw [show (T : Int).toNat = T from by omega] at hq
    have hF4 := Frm.of_below (S := NoS) hb4
    have HF4 := Lib.hid (HF3.out.trans hF4)
    have hz12 : W1.heap.size ≤ w2.heap.size := HF2.out.size
    have hz34 : w3.heap.size ≤ w4.heap.size := hF4.size
    have HINV0 : Hid (∀ E, AloneInv tp tq W1 (w4.alloc (.cells (madeCells #[.slice none 0 0] T) E)) p bp q bq T w4.heap.size t B I (fun _ => []) (fun _ => [])) := fun E => {
      qp := HP.out.frm (hF4.trans (Frm.alloc (Frm.refl NoS _) _)) (fun _ _ _ h => h)
      qq := hq.frm (Frm.alloc (Frm.refl NoS _) _) (fun _ _ _ h => h)
      m := MRep.new w4 T E
      same := rfl
      len := fun s hs => by simp; omega
      frm := ((HF4.out.alloc _)).mono (fun _ _ _ h => h.elim)
      oldp := fun k hk => by
        by_cases e : tp k = 0
        · exact e
        · have := HTP.out k e; omega
      oldq := fun k hk => by
        by_cases e : tq k = 0
        · exact e
        · have := htq k e; omega
      dis := fun k hk => by
        have h1 := HP.out.lt k hk
        by_cases e : tq k = 0
        · exact e
        · have := htq k e; omega
      mp := (HP.out.frm hF4 (fun _ _ _ h => h)).tz _ (Nat.le_refl _)
      mq := hq.tz _ (Nat.le_refl _)
      mbw := by omega }
    clear hb4 hq htq hF4 HP HTP
    obtain ⟨i0, hi, hz0, hz1, hz2⟩ := info_parts Try.infoRefs
    have hmk := run_make (P := Try.prog) w4 74 78 i0 _ Try.underlying74 hi hz0 .i64 .i64 (T : Int) (T : Int) (by omega) (Int.le_refl _) (by rw [hz2]; omega) (by omega)
    rw [hz1] at hmk
    obtain ⟨g0, g1, g2, g3⟩ := KG.out _ HF4.out
    have hlw : w.heap.size < w4.heap.size := World.block_lt_of_cell? w4 _ g0
    obtain ⟨⟨mne, mne1, mne2, mne3, mne4, mne5⟩, mlt1, mlt2, mlt3, mlt4, mlt5⟩ := ne_new hlw
    go_wp2_with fail
    have HINV := Lib.hid (HINV0.out 78)
    generalize w4.alloc (.cells (madeCells #[.slice none 0 0] T) 78) = W5 at *
    generalize w4.heap.size = mb at *
    clear hmk g0 g1 g2 g3 mne mne1 mne2 mne3 mne4 mne5 mlt1 mlt2 mlt3 mlt4 mlt5 HINV0 KG hlw
    go_loopw [69] (fun i wr => AloneRel l.length W1 p bp q bq T mb t B I i wr) (fun i _ => l.length - (intOf i).toNat)
    case atStart => exact ⟨0, tp, tq, fun _ => [], fun _ => [], Nat.zero_le _, rfl, HINV.out⟩
    case round =>
      obtain ⟨k, tp', tq', mm, mq, hk, rfl, hinv⟩ := hrel
      have hnz : ∀ j, ¬ GeS W1.heap.size w.heap.size j := fun j hS => by have h1 : W1.heap.size ≤ w.heap.size := hS; omega
      have g0 := hinv.frm.keep HG.out.1 (hnz _)
      have g1 := hinv.frm.keep HG.out.2.1 (hnz _)
      have g2 := hinv.frm.keep HG.out.2.2.1 (hnz _)
      have g3 := hinv.frm.keep HG.out.2.2.2 (hnz _)
      by_cases hlt : k < l.length
      · obtain ⟨A', cap', he, _, hc⟩ := HO1.out.frm hinv.frm (fun k j hk hS => by have h1 : W1.heap.size ≤ k := hS; have := hokw k hk; omega)
        simp only [Value.slice.injEq] at he
        obtain ⟨rfl, _, rfl⟩ := he
        obtain ⟨b, o, rfl, hok, hi⟩ := hc (by omega)
        obtain ⟨hv, bv, h0, h1, h2, h3, h4, h5, h6, h7⟩ := hi k _ (List.getElem?_eq_getElem hlt)
        have hbw : b < wr.heap.size := World.block_lt_of_cell? wr _ h0
        have HOK : Hid (∀ k, ok k → tp' k = 0) := fun k hk => hinv.oldp k (by have := hokw k hk; omega)
        generalize l[k] = op at *
        have HB6 := Lib.hid h6
        have HB7 := Lib.hid h7
        obtain ⟨A1, c1, rfl, _⟩ := h6
        obtain ⟨A2, c2, rfl, _⟩ := h7
        have hlw : w.heap.size < wr.heap.size := World.block_lt_of_cell? wr _ g0
        obtain ⟨⟨mne, mne1, mne2, mne3, mne4, mne5⟩, mlt1, mlt2, mlt3, mlt4, mlt5⟩ := ne_new hlw
        obtain ⟨W6, hW6⟩ : ∃ W6, W6 = wr.alloc (.cells #[.int .i64 op.kind, .int .i64 op.t, .int .i64 op.n, .int .i64 op.x.num, .slice A1 op.x.h.length c1, .slice A2 op.x.b.length c2] 76) := ⟨_, rfl⟩
        have hF6 : Frm NoS wr W6 := by rw [hW6]; exact Frm.alloc (Frm.refl _ _) _
        have HI6 := Lib.hid (hinv.frm1 hF6)
        have HBH := Lib.hid (HB6.out.frm hF6 (fun _ _ _ h => h))
        have HBB := Lib.hid (HB7.out.frm hF6 (fun _ _ _ h => h))
        have HK := Lib.hid hk
        clear hc hi hnz HB6 HB7
        by_cases hk6 : op.kind = 6
        · clear hinv
          rw [hk6] at hW6
          go_wp2_with fail
          rw [← hW6]
          go_roundw
          case measure => simp [intOf]; omega
          case rel => exact ⟨k + 1, tp', tq', mm, mq, by omega, by go_num, HI6.out⟩
        have hkb : (op.kind == 6) = false := by simpa using hk6
        have hkd : decide (op.kind = 6) = false := by simpa using hk6
        by_cases hot : op.t = (t : Int)
        · obtain ⟨okd, ot, on, ox⟩ := op
          simp only at *
          subst hot
          have hW6c : ∀ j, W6.cell? ⟨wr.heap.size, j, none⟩ = (#[.int .i64 okd, .int .i64 (t : Int), .int .i64 on, .int .i64 ox.num, .slice A1 ox.h.length c1, .slice A2 ox.b.length c2] : Array Value)[j]? := fun j => by rw [hW6]; exact World.cell?_alloc_at _ _ _ _ rfl
          have y0 : W6.cell? ⟨wr.heap.size, 0, none⟩ = some (.int .i64 okd) := hW6c 0
          have y1 : W6.cell? ⟨wr.heap.size, 1, none⟩ = some (.int .i64 (t : Int)) := hW6c 1
          have y2 : W6.cell? ⟨wr.heap.size, 2, none⟩ = some (.int .i64 on) := hW6c 2
          have y3 : W6.cell? ⟨wr.heap.size, 3, none⟩ = some (.int .i64 ox.num) := hW6c 3
          have y4 : W6.cell? ⟨wr.heap.size, 4, none⟩ = some (.slice A1 ox.h.length c1) := hW6c 4
          have y5 : W6.cell? ⟨wr.heap.size, 5, none⟩ = some (.slice A2 ox.b.length c2) := hW6c 5
          have gz0 := hF6.keep g0 (fun h => h)
          have gz1 := hF6.keep g1 (fun h => h)
          have gz2 := hF6.keep g2 (fun h => h)
          have gz3 := hF6.keep g3 (fun h => h)
          obtain ⟨vm, cm, hrm⟩ := HI6.out.m.cell t htT
          have tzp : tp' wr.heap.size = 0 := hinv.qp.tz _ (Nat.le_refl _)
          have tzq : tq' wr.heap.size = 0 := hinv.qq.tz _ (Nat.le_refl _)
          have tzp0 : tp' w.heap.size = 0 := hinv.oldp _ hzlt
          have tzq0 : tq' w.heap.size = 0 := hinv.oldq _ hzlt
          have tpm := HI6.out.mp
          have tqm := HI6.out.mq
          have hmt : mq t = mm t := HI6.out.same
          have HON1 : Hid (∀ W, Frm NoS W6 W → Calls Try.prog 44 #[.pointer (some ⟨p, 0, none⟩), vm, .agg #[.int .i64 (T : Int), .int .i64 B, .int .i64 I, .slice (some ⟨b, o, none⟩) l.length cap], .agg #[.int .i64 okd, .int .i64 (t : Int), .int .i64 on, .int .i64 ox.num, .slice A1 ox.h.length c1, .slice A2 ox.b.length c2]] W (OnePost tp' (okA tp' tq' mb) W p bp T B I mm t (oneL B I (mm t) ⟨okd, (t : Int), on, ox⟩))) := fun W hf =>
            one_any (ok := okA tp' tq' mb) (okb := ok) ⟨okd, (t : Int), on, ox⟩ W (HI6.out.qp.frm hf (fun _ _ _ h => h)) (hrm.frm hf (fun _ _ _ h => h)) (fun k h => h.1) (HBH.out.frm hf (fun _ _ _ h => h)) (HBB.out.frm hf (fun _ _ _ h => h)) (by show (0 : Int) ≤ (t : Int); omega) (by show (t : Int) < (T : Int); omega) (HI6.out.len t htT)
          have HON2 : Hid (∀ W, Frm (PS tp') W6 W → Calls Try.prog 44 #[.pointer (some ⟨q, 0, none⟩), vm, .agg #[.int .i64 (T : Int), .int .i64 B, .int .i64 I, .slice (some ⟨b, o, none⟩) l.length cap], .agg #[.int .i64 okd, .int .i64 (t : Int), .int .i64 on, .int .i64 ox.num, .slice A1 ox.h.length c1, .slice A2 ox.b.length c2]] W (OnePost tq' (okA tp' tq' mb) W q bq T B I mq t (oneL B I (mm t) ⟨okd, (t : Int), on, ox⟩))) := fun W hf => by
            have hr2 : RefIn (okA tp' tq' mb) W vm (mq ((t : Int)).toNat) := by rw [show ((t : Int)).toNat = t from by omega, hmt]; exact hrm.frm hf (fun k j hk hS => hS hk.1)
            have := one_any (ok := okA tp' tq' mb) (okb := ok) (zv := .slice (some ⟨b, o, none⟩) l.length cap) ⟨okd, (t : Int), on, ox⟩ W (HI6.out.qq.frm hf (fun k j hk hS => hk (HI6.out.dis k hS))) hr2 (fun k h => h.2.1) (HBH.out.frm hf (fun k j hk hS => hS (HOK.out k hk))) (HBB.out.frm hf (fun k j hk hS => hS (HOK.out k hk))) (by show (0 : Int) ≤ (t : Int); omega) (by show (t : Int) < (T : Int); omega) (by show ((mq ((t : Int)).toNat).length : Int) ≤ I; rw [show ((t : Int)).toNat = t from by omega, hmt]; exact HI6.out.len t htT)
            rw [show ((t : Int)).toNat = t from by omega, hmt] at this
            exact this
          have KEEP : Hid (∀ w', Frm (PS tp') W6 w' → w'.cell? ⟨w.heap.size, 0, none⟩ = some (.int .i64 (T : Int)) ∧ w'.cell? ⟨w.heap.size, 1, none⟩ = some (.int .i64 B) ∧ w'.cell? ⟨w.heap.size, 2, none⟩ = some (.int .i64 I) ∧ w'.cell? ⟨w.heap.size, 3, none⟩ = some (.slice (some ⟨b, o, none⟩) l.length cap) ∧ w'.cell? ⟨wr.heap.size, 0, none⟩ = some (.int .i64 okd) ∧ w'.cell? ⟨wr.heap.size, 1, none⟩ = some (.int .i64 (t : Int)) ∧ w'.cell? ⟨wr.heap.size, 2, none⟩ = some (.int .i64 on) ∧ w'.cell? ⟨wr.heap.size, 3, none⟩ = some (.int .i64 ox.num) ∧ w'.cell? ⟨wr.heap.size, 4, none⟩ = some (.slice A1 ox.h.length c1) ∧ w'.cell? ⟨wr.heap.size, 5, none⟩ = some (.slice A2 ox.b.length c2) ∧ w'.cell? ⟨mb, t, none⟩ = some vm ∧ Frm (PS tp') W6 w') := fun w' hf => ⟨hf.keep gz0 (fun hS => hS tzp0), hf.keep gz1 (fun hS => hS tzp0), hf.keep gz2 (fun hS => hS tzp0), hf.keep gz3 (fun hS => hS tzp0), hf.keep y0 (fun hS => hS tzp), hf.keep y1 (fun hS => hS tzp), hf.keep y2 (fun hS => hS tzp), hf.keep y3 (fun hS => hS tzp), hf.keep y4 (fun hS => hS tzp), hf.keep y5 (fun hS => hS tzp), hf.keep cm (fun hS => hS tpm), hf⟩
          have hfm : W6.frozen? ⟨mb, t, none⟩ = false := HI6.out.m.fz t
          have HFM := Lib.hid hfm
          have HCM := Lib.hid cm
          have HTZ := Lib.hid (And.intro tzp (And.intro tzq (And.intro tzp0 (And.intro tzq0 (And.intro tpm tqm)))))
          clear hW6c hinv hF6 hrm tzp tzq tzp0 tzq0 tpm tqm hmt hfm gz0 gz1 gz2 gz3 y0 y1 y2 y3 y4 y5 cm
          have hst := KEEP.out _ (Frm.refl _ W6)
          obtain ⟨gz0, gz1, gz2, gz3, y0, y1, y2, y3, y4, y5, cm, -⟩ := hst
          go_wp2_with fail
          rw [← hW6]
          clear hW6
          go_region_held3 (fun w' => w'.cell? ⟨w.heap.size, 0, none⟩ = some (.int .i64 (T : Int)) ∧ w'.cell? ⟨w.heap.size, 1, none⟩ = some (.int .i64 B) ∧ w'.cell? ⟨w.heap.size, 2, none⟩ = some (.int .i64 I) ∧ w'.cell? ⟨w.heap.size, 3, none⟩ = some (.slice (some ⟨b, o, none⟩) l.length cap) ∧ w'.cell? ⟨wr.heap.size, 0, none⟩ = some (.int .i64 okd) ∧ w'.cell? ⟨wr.heap.size, 1, none⟩ = some (.int .i64 (t : Int)) ∧ w'.cell? ⟨wr.heap.size, 2, none⟩ = some (.int .i64 on) ∧ w'.cell? ⟨wr.heap.size, 3, none⟩ = some (.int .i64 ox.num) ∧ w'.cell? ⟨wr.heap.size, 4, none⟩ = some (.slice A1 ox.h.length c1) ∧ w'.cell? ⟨wr.heap.size, 5, none⟩ = some (.slice A2 ox.b.length c2) ∧ w'.cell? ⟨mb, t, none⟩ = some vm ∧ Frm (PS tp') W6 w') ((first | exact hN5 | (refine KEEP.out _ ?_; exact (Frm.refl _ W6).drew))) (first | (go_at_call 44; refine (HON1.out _ (Frm.refl _ W6).drew).mono ?_; rintro r w7 ⟨v7, tg7, rfl, hr7, hq7, ht7, hf7, hl7⟩; have hf67 : Frm (PS tp') W6 w7 := (Frm.refl (PS tp') W6).drew.trans (hf7.mono (fun k j _ hS => by unfold PS; omega)); have hN5 := KEEP.out _ hf67; have HR7 := Lib.hid hr7; have HQ7 := Lib.hid hq7; have HT7 := Lib.hid ht7; have HF7 := Lib.hid hf7; have HF67 := Lib.hid hf67; have HL7 := Lib.hid hl7; obtain ⟨A7, c7, rfl, _⟩ := hr7; clear hq7 ht7 hf7 hl7 hf67))
          clear gz0 gz1 gz2 gz3 y0 y1 y2 y3 y4 y5 cm
          obtain ⟨gz0, gz1, gz2, gz3, y0, y1, y2, y3, y4, y5, cm, -⟩ := hN5
          go_wp2_with fail
          obtain ⟨tzp, tzq, tzp0, tzq0, tpm, tqm⟩ := HTZ.out
          have KEEP2 : Hid (∀ w', Frm (PS tq') w7 w' → w'.cell? ⟨w.heap.size, 0, none⟩ = some (.int .i64 (T : Int)) ∧ w'.cell? ⟨w.heap.size, 1, none⟩ = some (.int .i64 B) ∧ w'.cell? ⟨w.heap.size, 2, none⟩ = some (.int .i64 I) ∧ w'.cell? ⟨w.heap.size, 3, none⟩ = some (.slice (some ⟨b, o, none⟩) l.length cap) ∧ w'.cell? ⟨wr.heap.size, 0, none⟩ = some (.int .i64 okd) ∧ w'.cell? ⟨wr.heap.size, 1, none⟩ = some (.int .i64 (t : Int)) ∧ w'.cell? ⟨wr.heap.size, 2, none⟩ = some (.int .i64 on) ∧ w'.cell? ⟨wr.heap.size, 3, none⟩ = some (.int .i64 ox.num) ∧ w'.cell? ⟨wr.heap.size, 4, none⟩ = some (.slice A1 ox.h.length c1) ∧ w'.cell? ⟨wr.heap.size, 5, none⟩ = some (.slice A2 ox.b.length c2) ∧ w'.cell? ⟨mb, t, none⟩ = some vm ∧ Frm (PS tq') w7 w') := fun w' hf => ⟨hf.keep gz0 (fun hS => hS tzq0), hf.keep gz1 (fun hS => hS tzq0), hf.keep gz2 (fun hS => hS tzq0), hf.keep gz3 (fun hS => hS tzq0), hf.keep y0 (fun hS => hS tzq), hf.keep y1 (fun hS => hS tzq), hf.keep y2 (fun hS => hS tzq), hf.keep y3 (fun hS => hS tzq), hf.keep y4 (fun hS => hS tzq), hf.keep y5 (fun hS => hS tzq), hf.keep cm (fun hS => hS tqm), hf⟩
          clear tzp tzq tzp0 tzq0 tpm tqm
          generalize hll : oneL B I (mm t) ⟨okd, (t : Int), on, ox⟩ = ll at *
          clear hll
          go_region_held3 (fun w' => w'.cell? ⟨w.heap.size, 0, none⟩ = some (.int .i64 (T : Int)) ∧ w'.cell? ⟨w.heap.size, 1, none⟩ = some (.int .i64 B) ∧ w'.cell? ⟨w.heap.size, 2, none⟩ = some (.int .i64 I) ∧ w'.cell? ⟨w.heap.size, 3, none⟩ = some (.slice (some ⟨b, o, none⟩) l.length cap) ∧ w'.cell? ⟨wr.heap.size, 0, none⟩ = some (.int .i64 okd) ∧ w'.cell? ⟨wr.heap.size, 1, none⟩ = some (.int .i64 (t : Int)) ∧ w'.cell? ⟨wr.heap.size, 2, none⟩ = some (.int .i64 on) ∧ w'.cell? ⟨wr.heap.size, 3, none⟩ = some (.int .i64 ox.num) ∧ w'.cell? ⟨wr.heap.size, 4, none⟩ = some (.slice A1 ox.h.length c1) ∧ w'.cell? ⟨wr.heap.size, 5, none⟩ = some (.slice A2 ox.b.length c2) ∧ w'.cell? ⟨mb, t, none⟩ = some vm ∧ Frm (PS tq') w7 w') ((first | exact hN6 | (refine KEEP2.out _ ?_; exact (Frm.refl _ w7).drew))) (first | (go_at_call 44; refine (HON2.out _ HF67.out.drew).mono ?_; rintro r w8 ⟨v8, tg8, rfl, hr8, hq8, ht8, hf8, hl8⟩; have hf78 : Frm (PS tq') w7 w8 := (Frm.refl (PS tq') w7).drew.trans (hf8.mono (fun k j _ hS => by unfold PS; omega)); have hN6 := KEEP2.out _ hf78; have HQ8 := Lib.hid hq8; have HT8 := Lib.hid ht8; have HF8 := Lib.hid hf8; obtain ⟨A8, c8, rfl, _⟩ := hr8; clear hq8 ht8 hf8 hl8 hf78))
          clear gz0 gz1 gz2 gz3 y0 y1 y2 y3 y4 y5 cm
          have cm := hN6.2.2.2.2.2.2.2.2.2.2.1
          have hF78 := hN6.2.2.2.2.2.2.2.2.2.2.2
          clear hN6
          have hfm : w8.frozen? ⟨mb, t, none⟩ = false := by
            have h1 := HF67.out.keepf HCM.out HFM.out (j := 0) (fun hS => hS HTZ.out.2.2.2.2.1)
            have h2 := HF67.out.keep HCM.out (fun hS => hS HTZ.out.2.2.2.2.1)
            exact hF78.keepf h2 h1 (j := 0) (fun hS => hS HTZ.out.2.2.2.2.2)
          clear hF78
          have HI9 := Lib.hid (HI6.out.own htT HR7.out HQ7.out HT7.out ((Frm.refl _ W6).drew.trans HF7.out) HL7.out HQ8.out HT8.out ((Frm.refl _ w7).drew.trans HF8.out))
          have hma : ∀ (f : Nat → List QI), mAt (upd f t ll) T (t : Int) = ll := fun f => by
            unfold mAt upd
            rw [if_pos ⟨by omega, by omega⟩, if_pos (by omega)]
          have HBP := Lib.hid (bytes_any (t : Int) _ HI9.out.qp)
          have HBQ := Lib.hid (bytes_any (t : Int) _ HI9.out.qq)
          have HLP := Lib.hid (len_any (t : Int) _ HI9.out.qp)
          have HLQ := Lib.hid (len_any (t : Int) _ HI9.out.qq)
          rw [hma] at HBP HBQ HLP HLQ
          clear hma HON1 HON2 KEEP KEEP2 HF8 HT8 HQ8 HL7 HF7 HT7 HQ7 HR7
          go_wp2_with (first | (go_at_call_of 42 (Value.pointer (some ⟨p, 0, none⟩)); refine HBP.out.mono ?_; rintro r w' ⟨rfl, rfl⟩) | (go_at_call_of 42 (Value.pointer (some ⟨q, 0, none⟩)); refine HBQ.out.mono ?_; rintro r w' ⟨rfl, rfl⟩) | (go_at_call_of 39 (Value.pointer (some ⟨p, 0, none⟩)); refine HLP.out.mono ?_; rintro r w' ⟨rfl, rfl⟩) | (go_at_call_of 39 (Value.pointer (some ⟨q, 0, none⟩)); refine HLQ.out.mono ?_; rintro r w' ⟨rfl, rfl⟩) | fail)
          go_roundw
          case measure => simp [intOf]; omega
          case rel => exact ⟨k + 1, tg7, tg8, _, _, by omega, by go_num, HI9.out⟩
        · have hob : (op.t == (t : Int)) = false := by simpa using hot
          have HOT := Lib.hid hot
          have HK6 := Lib.hid hk6
          have HST := Lib.hid (step_any (ok := okA tp' tq' mb) (zv := .slice (some ⟨b, o, none⟩) l.length cap) op W6 HI6.out.qp HI6.out.m (fun k h => ⟨h.1, h.2.2⟩) HI6.out.mp HBH.out HBB.out HI6.out.len)
          clear hinv hF6 hot hk6
          go_wp2_with fail
          rw [← hW6]
          refine HST.out.mono ?_
          rintro r w6 ⟨tg6, rfl, hq6, hm6, ht6, hf6, hl6⟩
          have hst : stepL T B I mm op t = mm t := by
            unfold stepL
            rw [if_neg HK6.out]
            split
            · unfold upd
              rw [if_neg (by have := HOT.out; omega)]
            · rfl
          have HI7 := Lib.hid (HI6.out.step hq6 hm6 ht6 hf6 hl6 hst)
          clear hq6 hm6 ht6 hf6 hl6 hst HST
          go_wp2_with fail
          go_roundw
          case measure => simp [intOf]; omega
          case rel => exact ⟨k + 1, tg6, tq', _, mq, by omega, by go_num, HI7.out⟩
      · obtain rfl : k = l.length := by omega
        have HF : Hid (Frm NoS w wr) := HF1.out.then_ hinv.frm (fun b j hb hS => by have h1 : W1.heap.size ≤ b := hS; omega)
        clear hinv hnz
        go_wp2_with (go_at_call 31; refine (awake18_any _).mono ?_; rintro r w4 ⟨rfl, hb4⟩; have HB4 := Lib.hid hb4; clear hb4)
        go_ret
        exact ⟨rfl, bl_then HF.out.no HB4.out⟩
theorem alone_any {ok : Nat → Prop} {v : Value} (T B I t : Int) (l : List OpD) (w : World) (h : OpsIn ok w v l) (hokw : ∀ k, ok k → k < w.heap.size) : Calls Try.prog 9 #[.agg #[.int .i64 T, .int .i64 B, .int .i64 I, v], .int .i64 t] w fun e w' => e = .returned (.bool true) ∧ Below w.heap.size w w' := by
  by_cases hn : newOK T B I ∧ 0 ≤ t ∧ t < T
  · have hT : ((T.toNat : Nat) : Int) = T := by have := hn.1.1.1; omega
    have ht : ((t.toNat : Nat) : Int) = t := by have := hn.2.1; omega
    have := alone_yes T.toNat t.toNat B I l w h hokw (by rw [hT]; exact hn.1) (by have := hn.2.2; omega)
    rwa [hT, ht] at this
  · exact alone_no T B I t l w h hn
end Go.Proofs.Ytpihldeikdiniaa
