/- Package queue: Clear. -/
import Derived.Test.YtpihldeikdiniaaQ13
namespace Go.Proofs.Ytpihldeikdiniaa
open Go.RowKit
set_option linter.unusedVariables false
set_option linter.unusedSimpArgs false
/-- How many items the first k tenants have. -/
def lsum (m : Nat → List QI) : Nat → Nat
  | 0 => 0
  | k + 1 => lsum m k + (m k).length
/-- The first k tenants have none left. -/
def clr (m : Nat → List QI) (k : Nat) : Nat → List QI := fun j => if j < k then [] else m j
theorem clr_succ (m : Nat → List QI) (k : Nat) : upd (clr m k) k [] = clr m (k + 1) := by
  funext j
  unfold upd clr
  by_cases h : j = k
  · subst h; simp
  · rw [if_neg h]
    by_cases h2 : j < k
    · rw [if_pos h2, if_pos (by omega)]
    · rw [if_neg h2, if_neg (by omega)]
theorem lsum_le {m : Nat → List QI} {T : Nat} (h : ∀ t, t < T → (m t).length ≤ 4096) : ∀ k, k ≤ T → lsum m k ≤ 4096 * k
  | 0, _ => by simp [lsum]
  | k + 1, hk => by have := lsum_le h k (by omega); have := h k (by omega); simp only [lsum]; omega
def ClrRel (tg : Nat → Nat) (w : World) (q bl T : Nat) (B I : Int) (m : Nat → List QI) (n i : Value) (wr : World) : Prop :=
  ∃ k, k ≤ T ∧ i = .int .i64 (k : Int) ∧ n = .int .i64 (lsum m k : Int) ∧ QRep tg wr q bl T B I (clr m k) ∧ Frm (fun k _ => tg k = 2) w wr
theorem QRep.congr {tg : Nat → Nat} {w : World} {q bl T : Nat} {B I : Int} {m m' : Nat → List QI} (h : QRep tg w q bl T B I m) (e : ∀ t, t < T → m t = m' t) : QRep tg w q bl T B I m' where
  tq := h.tq
  tl := h.tl
  T1 := h.T1
  B1 := h.B1
  I1 := h.I1
  c0 := h.c0
  c1 := h.c1
  c2 := h.c2
  line := fun t ht => by rw [← e t ht]; exact h.line t ht
  cnt := fun t ht => by rw [← e t ht]; exact h.cnt t ht
  fz := h.fz
  lim := fun t ht => by rw [← e t ht]; exact h.lim t ht
  lt := h.lt
def ClearPost (tg : Nat → Nat) (w : World) (q bl T : Nat) (B I : Int) (m : Nat → List QI) (e : Ending) (w' : World) : Prop :=
  e = .returned (.int .i64 (lsum m T : Int)) ∧ QRep tg w' q bl T B I (fun _ => []) ∧ Frm (fun k _ => tg k = 2) w w'
theorem clr_all {tg : Nat → Nat} {w : World} {q bl T : Nat} {B I : Int} {m : Nat → List QI} (h : QRep tg w q bl T B I (clr m T)) : QRep tg w q bl T B I (fun _ => []) :=
  h.congr (fun t ht => by simp [clr, ht])
theorem clr_zero (m : Nat → List QI) : clr m 0 = m := by funext j; simp [clr]
theorem clear_step {tg : Nat → Nat} {w wr : World} {q bl T k : Nat} {B I : Int} {m : Nat → List QI} (h : QRep tg wr q bl T B I (clr m k)) (hk : k < T) (hf : Frm (fun k _ => tg k = 2) w wr) :
    let W := (wr.setCell ⟨bl, k * 2, none⟩ (.slice none 0 0)).setCell ⟨bl, k * 2 + 1, none⟩ (.int .i64 0)
    QRep tg W q bl T B I (clr m (k + 1)) ∧ Frm (fun k _ => tg k = 2) w W := by
  intro W
  obtain ⟨v, r, hv, _⟩ := h.line k hk
  have hc := h.cnt k hk
  have hW : Frm (fun k j => tg k = 2 ∧ (j = k * 2 ∨ True)) wr W := ((Frm.refl _ _).set_old (p := ⟨bl, k * 2, none⟩) ⟨h.tl, .inr trivial⟩ _).set_old (p := ⟨bl, k * 2 + 1, none⟩) ⟨h.tl, .inr trivial⟩ _
  have hL : Frm (LineS tg k) wr W := ((Frm.refl _ _).set_old (p := ⟨bl, k * 2, none⟩) (.inr ⟨h.tl, .inl rfl⟩) _).set_old (p := ⟨bl, k * 2 + 1, none⟩) (.inr ⟨h.tl, .inr rfl⟩) _
  refine ⟨?_, hf.trans (hW.mono (fun _ _ _ hk => hk.1))⟩
  rw [← clr_succ]
  refine h.turn hk hL (v := .slice none 0 0) (r := []) ?_ { items := .nil, own := World.ownsRow_nil _ _ _ _, ok := fun k hk => by simp [Value.ownBlock] at hk, few := by decide } ?_ h.B1.1
  · exact (World.cell?_setCell_other _ _ _ _ (by simp)).trans (World.cell?_setCell_same _ _ _ hv)
  · exact World.cell?_setCell_same _ _ _ ((World.cell?_setCell_other _ _ _ _ (by simp)).trans hc)
set_option maxRecDepth 100000 in
set_option maxHeartbeats 1600000 in
theorem clear_any {tg : Nat → Nat} {q bl T : Nat} {B I : Int} {m : Nat → List QI} (w : World) (h : QRep tg w q bl T B I m) :
    Calls Try.prog 40 #[.pointer (some ⟨q, 0, none⟩)] w (ClearPost tg w q bl T B I m) := by
  have hT := h.T1
  have hq0 := h.c0
  have hlf : Hid (∀ k, k ≤ T → lsum m k ≤ 4096 * k) := lsum_le (fun t ht => by obtain ⟨v, r, _, hl⟩ := h.line t ht; exact hl.few)
  have HQ := Lib.hid h
  clear h
  go_enter Try.func40, Try.ntmps40
  go_wp2_with fail
  go_loopw [3, 10] (fun n i wr => ClrRel tg w q bl T B I m n i wr) (fun _ i _ => T - (intOf i).toNat)
  case atStart => exact ⟨0, Nat.zero_le _, rfl, rfl, by rw [clr_zero]; exact HQ.out, Frm.refl _ _⟩
  case round =>
    obtain ⟨k, hk, rfl, rfl, hq, hf⟩ := hrel
    by_cases hlt : k < T
    · obtain ⟨v, r, hv, hl⟩ := hq.line k hlt
      have hc := hq.cnt k hlt
      have hf0 := hq.fz (k * 2)
      have hf1 := hq.fz (k * 2 + 1)
      have hqr := hq.c0
      have hmk : clr m k k = m k := by simp [clr]
      rw [hmk] at hl
      have hls := hlf.out k hk
      have hls1 := hlf.out (k + 1) hlt
      have hfw := hl.few
      obtain ⟨A, c, rfl⟩ : ∃ A c, v = .slice A (m k).length c := by
        rcases hl.own.2 with ⟨rfl, hz⟩ | ⟨g, cap, cur, rfl, _⟩
        · exact ⟨none, 0, by rw [hz]⟩
        · exact ⟨_, _, rfl⟩
      have HST := Lib.hid (clear_step hq hlt hf)
      have hsum : Hid (lsum m (k + 1) = lsum m k + (m k).length) := rfl
      clear hq hl hf hmk
      generalize (m k).length = ln at *
      go_wp2_with fail
      go_roundw
      case rel => exact ⟨k + 1, by omega, by go_num, by rw [hsum.out]; simp, HST.out.1, HST.out.2⟩
      case measure => simp [intOf]; omega
    · obtain rfl : k = T := by omega
      have HQR := Lib.hid hq
      have HF := Lib.hid hf
      clear hq hf
      go_wp2_with fail
      go_ret
      exact ⟨rfl, clr_all HQR.out, HF.out⟩
end Go.Proofs.Ytpihldeikdiniaa
