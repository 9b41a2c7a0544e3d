/- Package squintref18: Put. -/
import Derived.Test.YtpihldeikdiniaaQ19
namespace Go.Proofs.Ytpihldeikdiniaa
open Go.RowKit
set_option linter.unusedVariables false
set_option linter.unusedSimpArgs false
theorem RefIn.one (w : World) (x : QI) : RefIn (fun k => w.heap.size ≤ k) (w.alloc (.cells #[.int .i64 x.num, .string ⟨x.h.toArray⟩, .string ⟨x.b.toArray⟩] 62)) (.slice (some ⟨w.heap.size, 0, none⟩) 1 1) [x] := by
  refine ⟨some ⟨w.heap.size, 0, none⟩, 1, rfl, Nat.le_refl _, by decide, by simp, fun _ => ⟨_, 0, rfl, Nat.le_refl _, fun i y hi => ?_⟩⟩
  cases i with
  | zero =>
    obtain rfl : x = y := by simpa using hi
    exact ⟨World.cell?_alloc_at _ _ _ _ rfl, World.cell?_alloc_at _ _ _ _ rfl, World.cell?_alloc_at _ _ _ _ rfl⟩
  | succ i => simp at hi
set_option maxRecDepth 100000 in
set_option maxHeartbeats 3200000 in
theorem refPut_no {ok : Nat → Prop} {v : Value} {l : List QI} (B I : Int) (x : QI) (w : World) (h : RefIn ok w v l) (hq : qbytes l ≤ 1048576) (hx : x.size ≤ 4611686018427387904) (hb : B ≤ 1048576) (hr : I ≤ (l.length : Int) ∨ B < qbytes l + x.size) :
    Calls Try.prog 77 #[v, .int .i64 B, .int .i64 I, refV x] w fun e w' => e = .returned (.tuple #[v, .int .i64 1]) ∧ Below w.heap.size w w' := by
  have hF1 : Frm NoS w ((w.alloc (.cells #[.int .i64 x.num, .string ⟨x.h.toArray⟩, .string ⟨x.b.toArray⟩] 62)).alloc (.cells #[.int .i64 x.num, .string ⟨x.h.toArray⟩, .string ⟨x.b.toArray⟩] 62)) := Frm.alloc (Frm.alloc (Frm.refl _ _) _) _
  have H1 : Hid (∀ W, Frm NoS w W → RefIn ok W v l) := fun W hf => h.frm hf (fun _ _ _ h => h)
  have HONE := Lib.hid (RefIn.one (w.alloc (.cells #[.int .i64 x.num, .string ⟨x.h.toArray⟩, .string ⟨x.b.toArray⟩] 62)) x)
  have HF := Lib.hid hF1
  obtain ⟨A, cap, rfl, hl, hm, hlb, hc⟩ := h
  have hnn := qbytes_nn l
  have hx0 : 0 ≤ x.size := by unfold QI.size; omega
  have hq1 : Hid (qbytes [x] = x.size) := by unfold Hid; simp [qbytes]
  unfold refV
  clear hF1 hc
  generalize hln : l.length = n at *
  by_cases hI : I ≤ (n : Int)
  · clear hr
    go_enter Try.func77, Try.ntmps77
    go_wp2_with fail
    go_ret2
    exact ⟨rfl, by repeat (first | exact Below.refl _ _ | apply bl_alloc)⟩
  · have hlow : B < qbytes l + x.size := by omega
    clear hr
    go_enter Try.func77, Try.ntmps77
    go_wp2_with fail
    refine (refSize_any (ok := ok) (l := l) _ (by have := H1.out _ HF.out; rw [hln] at *; exact this) (by omega)).mono ?_
    rintro r w2 ⟨rfl, d, hd⟩
    have HF2 : Hid (Frm NoS w w2) := by unfold Hid; rw [hd]; exact HF.out.drewN _
    have hone := (HONE.out.frm (S := NoS) (w' := w2) (by rw [hd]; exact (Frm.refl _ _).drewN _) (fun _ _ _ h => h))
    have hsz : (w.alloc (.cells #[.int .i64 x.num, .string ⟨x.h.toArray⟩, .string ⟨x.b.toArray⟩] 62)).heap.size = w.heap.size + 1 := by simp
    rw [hsz] at hone
    have HS2 := Lib.hid (refSize_any w2 hone (by rw [hq1.out]; omega))
    rw [hq1.out] at HS2
    clear hd hone hsz HONE
    go_wp2_with fail
    refine HS2.out.mono ?_
    rintro r w3 ⟨rfl, d, hd⟩
    have HF3 : Hid (Frm NoS w w3) := by unfold Hid; rw [hd]; exact HF2.out.drewN _
    have hw1 : IntKind.i64.wrap (qbytes l + x.size) = qbytes l + x.size := IntWalk.i64_in _ ⟨by omega, by omega⟩
    clear hd HS2 hq1
    go_wp2_with fail
    go_ret2
    exact ⟨rfl, HF3.out.no⟩
end Go.Proofs.Ytpihldeikdiniaa
