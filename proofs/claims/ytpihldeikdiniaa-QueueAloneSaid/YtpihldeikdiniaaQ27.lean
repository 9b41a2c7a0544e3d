/- Package queue: Drop. -/
import Derived.Test.YtpihldeikdiniaaQ26
import Derived.Test.YtpihldeikdiniaaQ23
namespace Go.Proofs.Ytpihldeikdiniaa
open Go.RowKit
set_option linter.unusedVariables false
set_option linter.unusedSimpArgs false
theorem dropN_first {n : Int} {l : List QI} {k : Nat} {x : QI} (hk : l[k]? = some x) (hx : x.num = n) (hall : ∀ (j : Nat) (y : QI), j < k → l[j]? = some y → y.num ≠ n) : l.eraseIdx k = dropN n l ∧ hasN n l = true := by
  induction l generalizing k with
  | nil => simp at hk
  | cons y l ih =>
    cases k with
    | zero =>
      obtain rfl : y = x := by simpa using hk
      simp [dropN, hasN, hx]
    | succ k =>
      have h0 : y.num ≠ n := hall 0 y (by omega) rfl
      obtain ⟨h1, h2⟩ := ih (by simpa using hk) (fun j z hj hz => hall (j + 1) z (by omega) (by simpa using hz))
      simp [dropN, hasN, h0, h1, h2]
theorem hasN_none {n : Int} {l : List QI} (hall : ∀ (j : Nat) (y : QI), l[j]? = some y → y.num ≠ n) : hasN n l = false := by
  induction l with
  | nil => rfl
  | cons y l ih =>
    have h0 : y.num ≠ n := hall 0 y rfl
    have := ih (fun j z hz => hall (j + 1) z (by simpa using hz))
    simp [hasN, h0, this]
set_option maxRecDepth 100000 in
set_option maxHeartbeats 1600000 in
theorem drop_range {tg : Nat → Nat} {q bl T : Nat} {B I : Int} {m : Nat → List QI} (t n : Int) (w : World) (h : QRep tg w q bl T B I m) (ht : t < 0 ∨ T ≤ t) :
    Calls Try.prog 76 #[.pointer (some ⟨q, 0, none⟩), .int .i64 t, .int .i64 n] w fun e w' => e = .returned (.bool false) ∧ Below w.heap.size w w' := by
  have HO := Lib.hid (of_no t (w.alloc (.cells #[.int .i64 n] 3)) (h.frm (Frm.of_below (S := NoS) (bl_alloc (Below.refl _ _) _)) (fun _ _ _ h => h)) ht)
  clear h ht
  go_enter Try.func76, Try.ntmps76
  go_wp2_with (go_at_call 73; refine HO.out.mono ?_; rintro r w' ⟨rfl, rfl⟩)
  go_ret
  exact ⟨rfl, bl_alloc (Below.refl _ _) _⟩
def DropPost (tg : Nat → Nat) (w : World) (q bl T : Nat) (B I : Int) (m : Nat → List QI) (t : Nat) (n : Int) (e : Ending) (w' : World) : Prop :=
  e = .returned (.bool (hasN n (m t))) ∧ QRep tg w' q bl T B I (upd m t (dropN n (m t))) ∧ Frm (LineS tg t) w w'
set_option maxRecDepth 100000 in
set_option maxHeartbeats 1600000 in
theorem drop_any {tg : Nat → Nat} {q bl T : Nat} {B I : Int} {m : Nat → List QI} (t n : Int) (w : World) (h : QRep tg w q bl T B I m) (h0 : 0 ≤ t) (h1 : t < T) :
    Calls Try.prog 76 #[.pointer (some ⟨q, 0, none⟩), .int .i64 t, .int .i64 n] w (DropPost tg w q bl T B I m t.toNat n) := by
  have HT : Hid (t.toNat < T) := by unfold Hid; omega
  have hF0 : Frm NoS w (w.alloc (.cells #[.int .i64 n] 3)) := Frm.alloc (Frm.refl _ _) _
  have hQ0 := h.frm hF0 (fun _ _ _ h => h)
  have HO := Lib.hid (of_yes t _ hQ0 h0 h1)
  obtain ⟨v, r, hcv, hlv⟩ := hQ0.line t.toNat HT.out
  have hp : (w.alloc (.cells #[.int .i64 n] 3)).cell? ⟨w.heap.size, 0, none⟩ = some (.int .i64 n) := World.cell?_alloc_at _ _ _ _ rfl
  have HI := Lib.hid (index_any n w.heap.size _ hlv hp)
  have HQ0 := Lib.hid hQ0
  have HF0 := Lib.hid hF0
  obtain ⟨W, hW⟩ : ∃ W, W = w.alloc (.cells #[.int .i64 n] 3) := ⟨_, rfl⟩
  clear hlv hp hQ0 hF0 h
  go_enter Try.func76, Try.ntmps76
  rw [← hW] at HO HI HQ0 HF0 hcv
  go_wp2_with fail
  rw [← hW]
  refine HO.out.mono ?_
  rintro rr w1 ⟨rfl, rfl⟩
  clear HO hW
  go_wp2_with fail
  refine HI.out.mono ?_
  clear HI
  rintro rr w2 ⟨k, rfl, hf2, hk⟩
  have HQ2 := Lib.hid (HQ0.out.frm hf2 (fun _ _ _ h => h))
  have HF2 := Lib.hid (HF0.out.trans hf2)
  clear hf2 hcv
  rcases hk with ⟨rfl, hall⟩ | ⟨k, x, rfl, hx, hxn, hall⟩
  · have HH := Lib.hid (hasN_none hall)
    clear hall
    go_wp2_with fail
    go_ret
    refine ⟨by rw [HH.out]; rfl, ?_, HF2.out.mono (fun _ _ _ h => h.elim)⟩
    rw [dropN_no HH.out]
    exact HQ2.out.congr (fun s _ => by unfold upd; split <;> simp_all)
  · obtain ⟨e1, e2⟩ := dropN_first hx hxn hall
    have HG := Lib.hid (gone_yes w2 HQ2.out HT.out hx)
    have HE1 := Lib.hid e1
    have HE2 := Lib.hid e2
    clear hx hxn hall e1 e2
    go_wp2_with fail
    refine HG.out.mono ?_
    clear HG
    rintro rr w3 ⟨hv, bv, rfl, _, _, hq3, hf3⟩
    have HQ3 := Lib.hid hq3
    have HF3 : Hid (Frm (LineS tg t.toNat) w w3) := HF2.out.mono (S' := LineS tg t.toNat) (fun _ _ _ h => h.elim) |>.trans hf3
    clear hq3 hf3
    go_wp2_with fail
    go_ret
    exact ⟨by rw [HE2.out]; rfl, by rw [← HE1.out]; exact HQ3.out, HF3.out⟩
end Go.Proofs.Ytpihldeikdiniaa
