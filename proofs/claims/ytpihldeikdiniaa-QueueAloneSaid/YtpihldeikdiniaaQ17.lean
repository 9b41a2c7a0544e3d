/- Package squintlaw18: ref: an item as the document has it. -/
import Derived.Test.YtpihldeikdiniaaQ15
namespace Go.Proofs.Ytpihldeikdiniaa
open Go.RowKit
set_option linter.unusedVariables false
set_option linter.unusedSimpArgs false
/-- An item of the document, as a value. -/
def refV (x : QI) : Value := .agg #[.int .i64 x.num, .string ⟨x.h.toArray⟩, .string ⟨x.b.toArray⟩]
set_option maxRecDepth 100000 in
set_option maxHeartbeats 1600000 in
theorem ref_any {ok : Nat → Prop} {hv bv : Value} (x : QI) (w : World) (hh : BytesIn ok w hv x.h) (hb : BytesIn ok w bv x.b) :
    Calls Try.prog 33 #[.agg #[.int .i64 x.num, hv, bv]] w fun e w' => e = .returned (refV x) ∧ w' = (w.alloc (.cells #[.int .i64 x.num, hv, bv] 57)).alloc (.cells #[.int .i64 x.num, .string ⟨x.h.toArray⟩, .string ⟨x.b.toArray⟩] 62) := by
  obtain ⟨W, hW⟩ : ∃ W, W = (w.alloc (.cells #[.int .i64 x.num, hv, bv] 57)).alloc (.cells #[.int .i64 0, .string ⟨#[]⟩, .string ⟨#[]⟩] 62) := ⟨_, rfl⟩
  have hF : Frm NoS w W := by rw [hW]; exact Frm.alloc (Frm.alloc (Frm.refl _ _) _) _
  have S1 := str_of (hh.frm hF (fun _ _ _ h => h))
  have S2 := str_of (hb.frm hF (fun _ _ _ h => h))
  rw [hW] at S1 S2
  obtain ⟨A, c, rfl, _⟩ := hh
  obtain ⟨A', c', rfl, _⟩ := hb
  obtain ⟨xn, xh, xb⟩ := x
  clear hF hW
  go_enter Try.func33, Try.ntmps33
  go_wp2_with fail
  refine bodyPost_ret (v := refV ⟨xn, xh, xb⟩) (by simp [results, Try.results33, go_sem, refV]) rfl ?_
  exact ⟨rfl, rfl⟩
end Go.Proofs.Ytpihldeikdiniaa
