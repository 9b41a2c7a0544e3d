/- Package queue: Put, refused. -/
import Derived.Test.YtpihldeikdiniaaQ5
namespace Go.Proofs.Ytpihldeikdiniaa
open Go.RowKit
set_option linter.unusedVariables false
set_option linter.unusedSimpArgs false
set_option maxRecDepth 100000 in
set_option maxHeartbeats 1600000 in
theorem put_range {tg : Nat → Nat} {q bl T : Nat} {B I : Int} {m : Nat → List QI} (A A' : Option Addr) (l c l' c' : Nat) (n t : Int) (w : World) (h : QRep tg w q bl T B I m) (ht : t < 0 ∨ T ≤ t) :
    Calls Try.prog 34 #[.pointer (some ⟨q, 0, none⟩), .int .i64 t, .agg #[.int .i64 n, .slice A l c, .slice A' l' c']] w fun e w' => e = .returned (.int .i64 11) ∧ Below w.heap.size w w' := by
  have HO := Lib.hid (of_no t (w.alloc (.cells #[.int .i64 n, .slice A l c, .slice A' l' c'] 57)) (h.frm (Frm.of_below (S := NoS) (bl_alloc (Below.refl _ _) _)) (fun _ _ _ h => h)) ht)
  clear h ht
  go_enter Try.func34, Try.ntmps34
  go_wp2_with (go_at_call 73; refine HO.out.mono ?_; rintro r w' ⟨rfl, rfl⟩)
  go_ret
  exact ⟨rfl, bl_alloc (Below.refl _ _) _⟩
set_option maxRecDepth 100000 in
set_option maxHeartbeats 3200000 in
theorem put_quota {tg : Nat → Nat} {q bl T : Nat} {B I : Int} {m : Nat → List QI} (A A' : Option Addr) (l c l' c' : Nat) (xn t : Int) (w : World) (h : QRep tg w q bl T B I m) (hb1 : l ≤ 140737488351232) (hb2 : l' ≤ 140737488351232)
    (h0 : 0 ≤ t) (h1 : t < T) (hq : I ≤ ((m t.toNat).length : Int) ∨ B < qbytes (m t.toNat) + ((l : Int) + (l' : Int))) :
    Calls Try.prog 34 #[.pointer (some ⟨q, 0, none⟩), .int .i64 t, .agg #[.int .i64 xn, .slice A l c, .slice A' l' c']] w fun e w' => e = .returned (.int .i64 33) ∧ Below w.heap.size w w' := by
  obtain ⟨v, r, hcv, hlv⟩ := h.line t.toNat (by omega)
  have hcn := h.cnt t.toNat (by omega)
  have hB := h.B1
  have hI := h.I1
  have hnn := qbytes_nn (m t.toNat)
  have hlim := h.lim t.toNat (by omega)
  have hfew := hlv.few
  obtain ⟨Av, cv, rfl⟩ : ∃ A c, v = .slice A (m t.toNat).length c := by
    rcases hlv.own.2 with ⟨rfl, hz⟩ | ⟨g, cap, cur, rfl, _⟩
    · exact ⟨none, 0, by rw [hz]⟩
    · exact ⟨_, _, rfl⟩
  have hblt : bl < w.heap.size := World.block_lt_of_cell? w _ hcv
  have hqlt : q < w.heap.size := World.block_lt_of_cell? w _ h.c0
  have hq1 := h.c1
  have hq2 := h.c2
  have HO := Lib.hid (of_yes t (w.alloc (.cells #[.int .i64 xn, .slice A l c, .slice A' l' c'] 57)) (h.frm (Frm.of_below (S := NoS) (bl_alloc (Below.refl _ _) _)) (fun _ _ _ h => h)) h0 h1)
  clear h hlv
  generalize (m t.toNat).length = n at *
  generalize qbytes (m t.toNat) = nb at *
  have hp0 : (w.alloc (.cells #[.int .i64 xn, .slice A l c, .slice A' l' c'] 57)).cell? ⟨w.heap.size, 0, none⟩ = some (.int .i64 xn) := by simp
  have hp1 : (w.alloc (.cells #[.int .i64 xn, .slice A l c, .slice A' l' c'] 57)).cell? ⟨w.heap.size, 1, none⟩ = some (.slice A l c) := by simp
  have hp2 : (w.alloc (.cells #[.int .i64 xn, .slice A l c, .slice A' l' c'] 57)).cell? ⟨w.heap.size, 2, none⟩ = some (.slice A' l' c') := by simp
  have hF0 : Frm NoS w (w.alloc (.cells #[.int .i64 xn, .slice A l c, .slice A' l' c'] 57)) := Frm.alloc (Frm.refl _ _) _
  have hv0 := hF0.keep hcv (fun h => h)
  have hv1 := hF0.keep hcn (fun h => h)
  have hv2 := hF0.keep hq1 (fun h => h)
  have hv3 := hF0.keep hq2 (fun h => h)
  have hW0s : w.heap.size < (w.alloc (.cells #[.int .i64 xn, .slice A l c, .slice A' l' c'] 57)).heap.size := by simp
  have HF := Lib.hid hF0
  clear hF0
  by_cases hI2 : I ≤ (n : Int)
  · clear hq
    go_enter Try.func34, Try.ntmps34
    go_wp2_with (go_at_call 73; refine HO.out.mono ?_; rintro r w' ⟨rfl, rfl⟩)
    generalize World.alloc _ (.cells #[.int .i64 xn, .slice A l c, .slice A' l' c'] 57) = W0 at *
    go_quiet (fail)
    go_wp2
    go_ret
    exact ⟨rfl, (HF.out.drewN _).no⟩
  · have hlow : B < nb + ((l : Int) + (l' : Int)) := by omega
    clear hq
    go_enter Try.func34, Try.ntmps34
    go_wp2_with (go_at_call 73; refine HO.out.mono ?_; rintro r w' ⟨rfl, rfl⟩)
    generalize World.alloc _ (.cells #[.int .i64 xn, .slice A l c, .slice A' l' c'] 57) = W0 at *
    have hd1 : decide (I ≤ (n : Int)) = false := by simpa using hI2
    have hwr : IntKind.i64.wrap (nb + ((l : Int) + (l' : Int))) = nb + ((l : Int) + (l' : Int)) := IntWalk.i64_in _ ⟨by omega, by omega⟩
    go_region_held3 (fun w' => w'.cell? ⟨bl, t.toNat * 2, none⟩ = some (.slice Av n cv) ∧ w'.cell? ⟨bl, t.toNat * 2 + 1, none⟩ = some (.int .i64 nb) ∧ w'.cell? ⟨q, 1, none⟩ = some (.int .i64 B) ∧ w'.cell? ⟨q, 2, none⟩ = some (.int .i64 I) ∧ w'.cell? ⟨w.heap.size, 0, none⟩ = some (.int .i64 xn) ∧ w'.cell? ⟨w.heap.size, 1, none⟩ = some (.slice A l c) ∧ w'.cell? ⟨w.heap.size, 2, none⟩ = some (.slice A' l' c')) (go_keep) (first | (go_at_call 36; refine (size_any _ _ _ _ _ _ _ _ hb1 hb2).mono ?_; rintro r w4 ⟨rfl, rfl⟩))
    clear hwr hd1
    go_wp2
    go_ret
    exact ⟨rfl, ((HF.out.alloc _).drew).no⟩
end Go.Proofs.Ytpihldeikdiniaa
