/- Package squintlaw18: a list of calls; right, at any list. -/
import Derived.Test.YtpihldeikdiniaaQ35
namespace Go.Proofs.Ytpihldeikdiniaa
open Go.RowKit
set_option linter.unusedVariables false
set_option linter.unusedSimpArgs false
/-- A call's six cells at an offset of a block. -/
def OpAt (ok : Nat → Prop) (w : World) (b o : Nat) (op : OpD) : Prop :=
  ∃ hv bv, w.cell? ⟨b, o, none⟩ = some (.int .i64 op.kind) ∧ w.cell? ⟨b, o + 1, none⟩ = some (.int .i64 op.t) ∧ w.cell? ⟨b, o + 2, none⟩ = some (.int .i64 op.n) ∧ w.cell? ⟨b, o + 3, none⟩ = some (.int .i64 op.x.num) ∧
    w.cell? ⟨b, o + 4, none⟩ = some hv ∧ w.cell? ⟨b, o + 5, none⟩ = some bv ∧ BytesIn ok w hv op.x.h ∧ BytesIn ok w bv op.x.b
theorem OpAt.frm {ok : Nat → Prop} {S : Nat → Nat → Prop} {w w' : World} {b o : Nat} {op : OpD} (h : OpAt ok w b o op) (hb : ok b) (hf : Frm S w w') (hn : ∀ k j, ok k → ¬ S k j) : OpAt ok w' b o op := by
  obtain ⟨hv, bv, h0, h1, h2, h3, h4, h5, h6, h7⟩ := h
  exact ⟨hv, bv, hf.keep h0 (hn _ _ hb), hf.keep h1 (hn _ _ hb), hf.keep h2 (hn _ _ hb), hf.keep h3 (hn _ _ hb), hf.keep h4 (hn _ _ hb), hf.keep h5 (hn _ _ hb), h6.frm hf hn, h7.frm hf hn⟩
def OpsIn (ok : Nat → Prop) (w : World) (v : Value) (l : List OpD) : Prop :=
  ∃ A cap, v = .slice A l.length cap ∧ l.length ≤ 140737488351232 ∧ (0 < l.length → ∃ b o, A = some ⟨b, o, none⟩ ∧ ok b ∧ ∀ i op, l[i]? = some op → OpAt ok w b (o + i * 6) op)
theorem OpsIn.frm {ok : Nat → Prop} {S : Nat → Nat → Prop} {w w' : World} {v : Value} {l : List OpD} (h : OpsIn ok w v l) (hf : Frm S w w') (hn : ∀ k j, ok k → ¬ S k j) : OpsIn ok w' v l := by
  obtain ⟨A, cap, hv, hl, hc⟩ := h
  refine ⟨A, cap, hv, hl, fun h0 => ?_⟩
  obtain ⟨b, o, hA, hok, hi⟩ := hc h0
  exact ⟨b, o, hA, hok, fun i op h => (hi i op h).frm hok hf hn⟩
def RightRel (l : Nat) (W : World) (n i : Value) (wr : World) : Prop :=
  ∃ (k : Nat) (s : Int), k ≤ l ∧ i = .int .i64 (k : Int) ∧ n = .int .i64 s ∧ 0 ≤ s ∧ s ≤ 200 ∧ Frm NoS W wr
def RightOK (T B I : Int) (w : World) (e : Ending) (w' : World) : Prop := ∃ b : Bool, e = .returned (.bool b) ∧ (b = true → newOK T B I) ∧ Below w.heap.size w w'
theorem newOK_or (T B I : Int) : newOK T B I ∨ T < 1 ∨ (¬ T < 1 ∧ 64 < T) ∨ (¬ T < 1 ∧ ¬ 64 < T ∧ B < 0) ∨ (¬ T < 1 ∧ ¬ 64 < T ∧ ¬ B < 0 ∧ 1048576 < B) ∨ (¬ T < 1 ∧ ¬ 64 < T ∧ ¬ B < 0 ∧ ¬ 1048576 < B ∧ I < 1) ∨ (¬ T < 1 ∧ ¬ 64 < T ∧ ¬ B < 0 ∧ ¬ 1048576 < B ∧ ¬ I < 1 ∧ 4096 < I) := by
  unfold newOK
  omega
set_option maxRecDepth 100000 in
set_option maxHeartbeats 6400000 in
theorem right_any {ok : Nat → Prop} {v : Value} (T B I : Int) (l : List OpD) (w : World) (h : OpsIn ok w v l) : Calls Try.prog 38 #[.agg #[.int .i64 T, .int .i64 B, .int .i64 I, v]] w (RightOK T B I w) := by
  have HO : Hid (∀ W, Frm NoS w W → OpsIn ok W v l) := fun W hf => h.frm hf (fun _ _ _ h => h)
  obtain ⟨A, cap, rfl, hl, hc⟩ := h
  clear hc
  have hnot := newOK_or T B I
  go_enter Try.func38, Try.ntmps38
  go_wp2_with fail
  obtain ⟨W, hW⟩ : ∃ W, W = w.alloc (.cells #[.int .i64 T, .int .i64 B, .int .i64 I, .slice A l.length cap] 71) := ⟨_, rfl⟩
  rw [← hW]
  have g0 : W.cell? ⟨w.heap.size, 0, none⟩ = some (.int .i64 T) := by rw [hW]; exact World.cell?_alloc_at _ _ _ _ rfl
  have g1 : W.cell? ⟨w.heap.size, 1, none⟩ = some (.int .i64 B) := by rw [hW]; exact World.cell?_alloc_at _ _ _ _ rfl
  have g2 : W.cell? ⟨w.heap.size, 2, none⟩ = some (.int .i64 I) := by rw [hW]; exact World.cell?_alloc_at _ _ _ _ rfl
  have HF : Hid (Frm NoS w W) := by unfold Hid; rw [hW]; exact Frm.alloc (Frm.refl _ _) _
  clear hW
  go_loopw [3, 9] (fun n i wr => RightRel l.length W n i wr) (fun _ i _ => l.length - (intOf i).toNat)
  case atStart => exact ⟨0, 0, Nat.zero_le _, rfl, rfl, Int.le_refl _, by omega, Frm.refl _ _⟩
  case round =>
    obtain ⟨k, s, hk, rfl, rfl, hs0, hs1, hf⟩ := hrel
    have g0 := hf.keep g0 (fun h => h)
    have g1 := hf.keep g1 (fun h => h)
    have g2 := hf.keep g2 (fun h => h)
    by_cases hlt : k < l.length
    · obtain ⟨A', cap', he, _, hc⟩ := HO.out _ (HF.out.trans hf)
      simp only [Value.slice.injEq] at he
      obtain ⟨rfl, _, rfl⟩ := he
      obtain ⟨b, o, rfl, hok, hi⟩ := hc (by omega)
      obtain ⟨hv, bv, h0, h1, h2, h3, h4, h5, h6, h7⟩ := hi k _ (List.getElem?_eq_getElem hlt)
      generalize l[k] = op at *
      obtain ⟨A1, c1, rfl, _, _, b1, _⟩ := h6
      obtain ⟨A2, c2, rfl, _, _, b2, _⟩ := h7
      obtain ⟨kind, t, n, xn, xh, xb⟩ := op
      simp only at h0 h1 h2 h3 h4 h5 b1 b2
      have HFF := Lib.hid hf
      clear hf hc hi
      go_wp2_with fail
      · go_ret
        exact ⟨false, rfl, (fun h => by cases h), (HF.out.trans (HFF.out.alloc _)).no⟩
      · go_roundw
        case measure => simp [intOf]; omega
        case rel => exact ⟨k + 1, _, by omega, by go_num, rfl, by omega, by omega, HFF.out.alloc _⟩
    · obtain rfl : k = l.length := by omega
      have HB : Hid (Below w.heap.size w wr) := (HF.out.trans hf).no
      clear hf
      rcases hnot with hn | hn | ⟨h1, hn⟩ | ⟨h1, h2, hn⟩ | ⟨h1, h2, h3, hn⟩ | ⟨h1, h2, h3, h4, hn⟩ | ⟨h1, h2, h3, h4, h5, hn⟩
      · obtain ⟨⟨t1, t2⟩, ⟨b1, b2⟩, ⟨i1, i2⟩⟩ := id hn
        have HN := Lib.hid hn
        clear hn
        go_wp2_with fail
        go_ret
        exact ⟨_, rfl, fun _ => HN.out, HB.out⟩
      all_goals
        go_wp2_with fail
        all_goals go_ret
        all_goals exact ⟨_, rfl, (fun h => by (simp at h) <;> omega), HB.out⟩
end Go.Proofs.Ytpihldeikdiniaa
