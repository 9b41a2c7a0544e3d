/- Package squintlaw18: step: what it leaves. -/
import Derived.Test.YtpihldeikdiniaaQ35
namespace Go.Proofs.Ytpihldeikdiniaa
open Go.RowKit
set_option linter.unusedVariables false
set_option linter.unusedSimpArgs false
def stepL (T : Nat) (B I : Int) (m : Nat → List QI) (o : OpD) : Nat → List QI :=
  if o.kind = 6 then fun _ => [] else if 0 ≤ o.t ∧ o.t < T then upd m o.t.toNat (oneL B I (m o.t.toNat) o) else m
def okN (tg : Nat → Nat) (ok : Nat → Prop) (mb n : Nat) : Nat → Prop := fun k => tg k = 0 ∧ k ≠ mb ∧ (ok k ∨ n ≤ k)
def StepPost (tg : Nat → Nat) (ok : Nat → Prop) (mb : Nat) (w : World) (q bl T : Nat) (B I : Int) (m' : Nat → List QI) (e : Ending) (w' : World) : Prop :=
  ∃ tg', e = .returned (.bool true) ∧ QRep tg' w' q bl T B I m' ∧ MRep (okN tg' ok mb w.heap.size) w' mb T m' ∧ (∀ k, k < w.heap.size → tg' k = tg k) ∧ Frm (fun k _ => tg k ≠ 0 ∨ k = mb) w w' ∧ ∀ t, t < T → ((m' t).length : Int) ≤ I
theorem step_fin {tg tg2 : Nat → Nat} {ok : Nat → Prop} {q bl T mb t : Nat} {B I : Int} {m : Nat → List QI} {w W w2 : World} {v2 : Value} {l' : List QI} (hT : 0 < T) (hF1 : Frm NoS w W) (hM : MRep ok W mb T m) (hokp : ∀ k, ok k → tg k = 0 ∧ k ≠ mb) (hmb : tg mb = 0) (hmlt : mb < w.heap.size) (ht : t < T) (hli : ∀ t, t < T → ((m t).length : Int) ≤ I)
    (hr2 : RefIn (fun k => tg2 k = 0 ∧ (ok k ∨ W.heap.size ≤ k)) w2 v2 l') (hq2 : QRep tg2 w2 q bl T B I (upd m t l')) (ht2 : ∀ k, k < W.heap.size → tg2 k = tg k) (hf2 : Frm (fun k _ => tg k = 2 ∨ tg k = 4 + t) W w2) (hl2 : (l'.length : Int) ≤ I) :
    StepPost tg ok mb w q bl T B I (upd m t l') (.returned (.bool true)) (w2.setCell ⟨mb, t, none⟩ v2) := by
  have hz1 := hF1.size
  have hmb2 : tg2 mb = 0 := by rw [ht2 mb (by omega)]; exact hmb
  have hM1 : MRep (fun k => ok k ∧ tg2 k = 0 ∧ k ≠ mb) W mb T m := hM.mono (fun k hk h => ⟨h, by rw [ht2 k hk]; exact (hokp k h).1, (hokp k h).2⟩)
  have hM2 : MRep (okN tg2 ok mb w.heap.size) w2 mb T m := (hM1.frm hT hf2 (fun k j hk hS => by have := (hokp k hk.1).1; omega) (fun j hS => by omega)).mono (fun k _ hk => ⟨hk.2.1, hk.2.2, .inl hk.1⟩)
  have hR2 : RefIn (okN tg2 ok mb w.heap.size) w2 v2 l' := hr2.mono (fun k _ hk => ⟨hk.1, fun e => by
    rcases hk.2 with h | h
    · exact (hokp k h).2 e
    · omega, by
    rcases hk.2 with h | h
    · exact .inl h
    · exact .inr (by omega)⟩)
  have hset : Frm (fun k _ => k = mb) w2 (w2.setCell ⟨mb, t, none⟩ v2) := (Frm.refl _ _).set_old (p := ⟨mb, t, none⟩) rfl _
  refine ⟨tg2, rfl, hq2.frm hset (fun k j hk e => hk (by rw [e]; exact hmb2)), hM2.set ht hR2 (fun h => h.2.1 rfl), fun k hk => ht2 k (by omega), ?_, fun s hs => ?_⟩
  · exact ((hF1.mono (fun _ _ _ h => h.elim)).trans (hf2.mono (fun k j _ hS => .inl (by omega)))).trans (hset.mono (fun _ _ _ hS => .inr hS))
  · unfold upd
    split
    · exact hl2
    · exact hli s hs
end Go.Proofs.Ytpihldeikdiniaa
