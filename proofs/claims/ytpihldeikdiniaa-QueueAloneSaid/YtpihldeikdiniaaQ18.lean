/- Package squintref18: a list of items as the document has it; Size. -/
import Derived.Test.YtpihldeikdiniaaQ17
namespace Go.Proofs.Ytpihldeikdiniaa
open Go.RowKit
set_option linter.unusedVariables false
set_option linter.unusedSimpArgs false
/-- A slice value that reads as these items of the document; its block is one of ok. -/
def RefIn (ok : Nat → Prop) (w : World) (v : Value) (l : List QI) : Prop :=
  ∃ A cap, v = .slice A l.length cap ∧ l.length ≤ cap ∧ cap ≤ maxLen ∧ l.length ≤ 8192 ∧ (0 < l.length → ∃ b o, A = some ⟨b, o, none⟩ ∧ ok b ∧ ∀ i x, l[i]? = some x → w.cell? ⟨b, o + i * 3, none⟩ = some (.int .i64 x.num) ∧ w.cell? ⟨b, o + i * 3 + 1, none⟩ = some (.string ⟨x.h.toArray⟩) ∧ w.cell? ⟨b, o + i * 3 + 2, none⟩ = some (.string ⟨x.b.toArray⟩))
theorem RefIn.frm {ok : Nat → Prop} {S : Nat → Nat → Prop} {w w' : World} {v : Value} {l : List QI} (h : RefIn ok w v l) (hf : Frm S w w') (hn : ∀ k j, ok k → ¬ S k j) : RefIn ok w' v l := by
  obtain ⟨A, cap, hv, hl, hm, hb, hc⟩ := h
  refine ⟨A, cap, hv, hl, hm, hb, fun h0 => ?_⟩
  obtain ⟨b, o, hA, hok, hcell⟩ := hc h0
  refine ⟨b, o, hA, hok, fun i x hi => ?_⟩
  obtain ⟨h1, h2, h3⟩ := hcell i x hi
  exact ⟨hf.keep h1 (hn _ _ hok), hf.keep h2 (hn _ _ hok), hf.keep h3 (hn _ _ hok)⟩
theorem qbytes_take {l : List QI} {k : Nat} {x : QI} (h : l[k]? = some x) : qbytes (l.take (k + 1)) = qbytes (l.take k) + x.size := by
  rw [List.take_add_one, h, qbytes_append]
  simp [qbytes]
theorem qbytes_take_le (l : List QI) (k : Nat) : qbytes (l.take k) ≤ qbytes l := by
  have := qbytes_append (l.take k) (l.drop k)
  rw [List.take_append_drop] at this
  have := qbytes_nn (l.drop k)
  omega
def SizeRel (w : World) (l : List QI) (n i : Value) (wr : World) : Prop :=
  ∃ k, k ≤ l.length ∧ i = .int .i64 (k : Int) ∧ n = .int .i64 (qbytes (l.take k)) ∧ ∃ d, wr = w.drewN d
set_option maxRecDepth 100000 in
set_option maxHeartbeats 3200000 in
theorem refSize_any {ok : Nat → Prop} {v : Value} {l : List QI} (w : World) (h : RefIn ok w v l) (hq : qbytes l ≤ 4611686018427387904) :
    Calls Try.prog 43 #[v] w fun e w' => e = .returned (.int .i64 (qbytes l)) ∧ ∃ d, w' = w.drewN d := by
  obtain ⟨A, cap, rfl, hl, hm, hb, hc⟩ := h
  have HC := Lib.hid hc
  have HQ := Lib.hid hq
  have HD0 : Hid (w = w.drewN 0) := rfl
  clear hc hq
  go_enter Try.func43, Try.ntmps43
  go_wp2_with fail
  go_loopw [3, 4] (fun n i wr => SizeRel w l n i wr) (fun _ i _ => l.length - (intOf i).toNat)
  case atStart => exact ⟨0, Nat.zero_le _, rfl, rfl, 0, HD0.out⟩
  case round =>
    obtain ⟨k, hk, rfl, rfl, d, hd⟩ := hrel
    by_cases hlt : k < l.length
    · have hx := List.getElem?_eq_getElem hlt
      generalize l[k] = x at hx
      obtain ⟨b, o, rfl, hok, hcell⟩ := HC.out (by omega)
      obtain ⟨h1, h2, h3⟩ := hcell k x hx
      have hf : Frm NoS w wr := by rw [hd]; exact (Frm.refl _ _).drewN _
      have g2 := hf.keep h2 (fun h => h)
      have g3 := hf.keep h3 (fun h => h)
      have HT := Lib.hid (qbytes_take hx)
      have ht := qbytes_take hx
      have ht1 := qbytes_take_le l (k + 1)
      have ht2 := qbytes_nn (l.take k)
      have hqq := HQ.out
      have hs : x.size = (x.h.length : Int) + x.b.length := rfl
      have hz2 : (⟨x.h.toArray⟩ : ByteArray).size = x.h.length := by simp [ByteArray.size]
      have hz3 : (⟨x.b.toArray⟩ : ByteArray).size = x.b.length := by simp [ByteArray.size]
      have HDD := Lib.hid hd
      have HS := Lib.hid hs
      rw [ht, hs] at ht1
      have hw2 : IntKind.i64.wrap ((x.h.length : Int) + x.b.length) = (x.h.length : Int) + x.b.length := IntWalk.i64_in _ ⟨by omega, by omega⟩
      have hw3 : IntKind.i64.wrap (qbytes (l.take k) + ((x.h.length : Int) + x.b.length)) = qbytes (l.take k) + ((x.h.length : Int) + x.b.length) := IntWalk.i64_in _ ⟨by omega, by omega⟩
      clear hf h1 h2 h3 hcell hx ht hd hs
      generalize hqt : qbytes (l.take k) = nb at *
      have HQT := Lib.hid hqt
      clear hqt
      go_wp2_with fail
      go_quiet (fail)
      clear hw2 hw3
      go_wp2_with fail
      go_roundw
      case rel => exact ⟨k + 1, by omega, by go_num, by rw [HT.out, HS.out], _, by rw [HDD.out]; exact World.drewN_drewN _ _ _⟩
      case measure => simp [intOf]; omega
    · obtain rfl : k = l.length := by omega
      have HDD := Lib.hid hd
      clear hd
      go_wp2_with fail
      go_ret
      exact ⟨by rw [List.take_length]; rfl, d, HDD.out⟩
end Go.Proofs.Ytpihldeikdiniaa
