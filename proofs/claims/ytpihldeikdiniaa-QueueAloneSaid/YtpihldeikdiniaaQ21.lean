/- Package squintref18: Put, taken. -/
import Derived.Test.YtpihldeikdiniaaQ20
namespace Go.Proofs.Ytpihldeikdiniaa
open Go.RowKit
set_option linter.unusedVariables false
set_option linter.unusedSimpArgs false
def RefPutPost (w : World) (l : List QI) (x : QI) (e : Ending) (w' : World) : Prop :=
  ∃ v', e = .returned (.tuple #[v', .int .i64 0]) ∧ RefIn (fun k => w.heap.size ≤ k ∧ k < w'.heap.size) w' v' (l ++ [x]) ∧ Below w.heap.size w w'
theorem grown_frm {w W W' : World} {row : Option Nat} (h : Frm NoS w W) (hg : W.grownBy W' row) (hr : ∀ k, row = some k → w.heap.size ≤ k) : Frm NoS w W' :=
  h.then_ (Frm.of_grown (S := fun k _ => row = some k) hg (fun k hk _ => hk)) (fun b j hb hS => by have := hr b hS; omega)
set_option maxRecDepth 100000 in
set_option maxHeartbeats 3200000 in
theorem refPut_yes {ok : Nat → Prop} {v : Value} {l : List QI} (B I : Int) (x : QI) (w : World) (h : RefIn ok w v l) (hb : B ≤ 1048576) (hi : (l.length : Int) < I) (hs : qbytes l + x.size ≤ B) (hI : I ≤ 4096) :
    Calls Try.prog 77 #[v, .int .i64 B, .int .i64 I, refV x] w (RefPutPost w l x) := by
  obtain ⟨i0, hi0, hz0, hz1, hz2⟩ := info_parts Try.infoRef
  obtain ⟨W1, hW1⟩ : ∃ W1, W1 = (w.alloc (.cells #[.int .i64 x.num, .string ⟨x.h.toArray⟩, .string ⟨x.b.toArray⟩] 62)).alloc (.cells #[.int .i64 x.num, .string ⟨x.h.toArray⟩, .string ⟨x.b.toArray⟩] 62) := ⟨_, rfl⟩
  have hF1 : Frm NoS w W1 := by rw [hW1]; exact Frm.alloc (Frm.alloc (Frm.refl _ _) _) _
  have p0 : W1.cell? ⟨w.heap.size, 0, none⟩ = some (.int .i64 x.num) := by rw [hW1, World.cell?_alloc_lt _ _ _ (by simp)]; exact World.cell?_alloc_at _ _ _ _ rfl
  have p1 : W1.cell? ⟨w.heap.size, 1, none⟩ = some (.string ⟨x.h.toArray⟩) := by rw [hW1, World.cell?_alloc_lt _ _ _ (by simp)]; exact World.cell?_alloc_at _ _ _ _ rfl
  have p2 : W1.cell? ⟨w.heap.size, 2, none⟩ = some (.string ⟨x.b.toArray⟩) := by rw [hW1, World.cell?_alloc_lt _ _ _ (by simp)]; exact World.cell?_alloc_at _ _ _ _ rfl
  have hone : RefIn (fun k => w.heap.size ≤ k) W1 (.slice (some ⟨w.heap.size + 1, 0, none⟩) 1 1) [x] := by
    have := RefIn.one (w.alloc (.cells #[.int .i64 x.num, .string ⟨x.h.toArray⟩, .string ⟨x.b.toArray⟩] 62)) x
    rw [← hW1] at this
    obtain ⟨A, c, hv, h1, h2, h3, h4⟩ := this
    simp at hv
    obtain ⟨rfl, rfl⟩ := hv
    exact ⟨_, 1, rfl, h1, h2, h3, fun h0 => by obtain ⟨b, o, he, hk, hc⟩ := h4 h0; simp at he; obtain ⟨rfl, rfl⟩ := he; exact ⟨_, _, rfl, by show w.heap.size ≤ _; omega, hc⟩⟩
  have H1 : Hid (∀ W, Frm NoS w W → RefIn ok W v l) := fun W hf => h.frm hf (fun _ _ _ h => h)
  have hnn := qbytes_nn l
  have hx0 : 0 ≤ x.size := by unfold QI.size; omega
  have hq1 : Hid (qbytes [x] = x.size) := by unfold Hid; simp [qbytes]
  have HS1 := Lib.hid (refSize_any W1 (H1.out _ hF1) (by omega))
  obtain ⟨A, cap, rfl, hl, hm, hlb, hc⟩ := h
  clear hc
  have hgt : ¬ B < qbytes l + x.size := by omega
  have hrl := refRow_len l
  unfold refV
  go_enter Try.func77, Try.ntmps77
  go_wp2_with fail
  rw [← hW1]
  refine HS1.out.mono ?_
  rintro r w2 ⟨rfl, d, hd⟩
  have hF12 : Frm NoS W1 w2 := by rw [hd]; exact (Frm.refl _ _).drewN _
  have HS2 := Lib.hid (refSize_any w2 (hone.frm hF12 (fun _ _ _ h => h)) (by rw [hq1.out]; omega))
  rw [hq1.out] at HS2
  clear hd HS1 hW1
  go_wp2_with fail
  refine HS2.out.mono ?_
  rintro r w3 ⟨rfl, d, hd⟩
  have hF13 : Frm NoS W1 w3 := hF12.trans (by rw [hd]; exact (Frm.refl _ _).drewN _)
  have hw1 : IntKind.i64.wrap (qbytes l + x.size) = qbytes l + x.size := IntWalk.i64_in _ ⟨by omega, by omega⟩
  have q0 := hF13.keep p0 (fun h => h)
  have q1 := hF13.keep p1 (fun h => h)
  have q2 := hF13.keep p2 (fun h => h)
  have hsz : w.heap.size ≤ w3.heap.size := Nat.le_trans hF1.size hF13.size
  have HF3 := Lib.hid (hF1.trans hF13)
  have HR3 := Lib.hid (H1.out _ (hF1.trans hF13))
  clear hd HS2 hq1 hF12 hF13 hF1 p0 p1 p2 hone H1
  have hqs : qbytes l + x.size ≤ B := hs
  clear hs
  cases l with
  | nil =>
    clear HR3
    cases A with
    | some ad =>
      go_wp2_with (first | (at_builtin; refine wpList_append_own_at _ rfl _ _ 78 rfl w.heap.size 62 i0 _ 3 40 Try.underlying78 hi0 hz0 hz1 hz2 rfl (by decide) v5 (0 + 0) ([] ++ []) rfl (HOWN5.out.alloc _) ⟨w5.heap.size, 0, none⟩ 1 1 (refCells x) rfl rfl (fun j u hj => by rw [Addr.add_lit, World.cell?_alloc_at _ _ _ _ rfl, Nat.zero_add]; show (refCells x).toArray[j]? = some u; rw [List.getElem?_toArray]; exact hj) (fun u hu => by simp [refCells] at hu; rcases hu with rfl | rfl | rfl <;> rfl) (by unfold maxLen; omega) (by omega) (by have := hsz5; simp; omega) ?_; intro v6 w6 hown6 hgr6 hnil6 hat6; have HOWN6 := Lib.hid hown6; have HGR6 := Lib.hid hgr6; clear hown6 hgr6 hnil6 hat6) | (at_builtin; refine wpList_append_own_at _ rfl _ _ 78 rfl w.heap.size 62 i0 _ 3 40 Try.underlying78 hi0 hz0 hz1 hz2 rfl (by decide) (.slice none 0 0) 0 [] rfl (World.ownsRow_nil _ _ _ _) ad 0 cap [] rfl rfl (fun j u hj => by simp at hj) (fun u hu => by cases hu) (by unfold maxLen; omega) (by omega) hsz ?_; intro v5 w5 hown5 hgr5 hnil5 hat5; have q0 := hgr5.cell q0 (by simp [Value.ownBlock]); have q1 := hgr5.cell q1 (by simp [Value.ownBlock]); have q2 := hgr5.cell q2 (by simp [Value.ownBlock]); have hsz5 := Nat.le_trans hsz hgr5.size; have hq5 := Nat.lt_of_lt_of_le (World.block_lt_of_cell? w5 _ q0) (Nat.le_refl _); have HOWN5 := Lib.hid hown5; have HGR5 := Lib.hid hgr5; clear hown5 hgr5 hnil5 hat5))
      go_ret2
      have h6 := HOWN6.out
      rw [show [] ++ [] ++ refCells x = refRow ([] ++ [x]) from by simp [refRow], show 0 + 0 + 1 = ([] ++ [x] : List QI).length from rfl] at h6
      have hF5 : Frm NoS w w5 := grown_frm HF3.out HGR5.out (fun k hk => by simp [Value.ownBlock] at hk)
      have hF6 : Frm NoS w w6 := grown_frm (hF5.alloc _) HGR6.out (fun k hk => (HOWN5.out.lt k hk).1)
      exact ⟨v6, rfl, RefIn.of_own h6 (by simp), hF6.no⟩
    | none =>
      go_wp2_with (at_builtin; refine wpList_append_own_at _ rfl _ _ 78 rfl w.heap.size 62 i0 _ 3 40 Try.underlying78 hi0 hz0 hz1 hz2 rfl (by decide) (.slice none 0 0) 0 [] rfl (World.ownsRow_nil _ _ _ _) ⟨w3.heap.size, 0, none⟩ 1 1 (refCells x) rfl rfl (fun j u hj => by rw [Addr.add_lit, World.cell?_alloc_at _ _ _ _ rfl, Nat.zero_add]; show (refCells x).toArray[j]? = some u; rw [List.getElem?_toArray]; exact hj) (fun u hu => by simp [refCells] at hu; rcases hu with rfl | rfl | rfl <;> rfl) (by unfold maxLen; omega) (by omega) (by have := hsz; simp; omega) ?_; intro v6 w6 hown6 hgr6 hnil6 hat6; have HOWN6 := Lib.hid hown6; have HGR6 := Lib.hid hgr6; clear hown6 hgr6 hnil6 hat6)
      go_ret2
      have h6 := HOWN6.out
      rw [show [] ++ refCells x = refRow ([] ++ [x]) from by simp [refRow], show 0 + 1 = ([] ++ [x] : List QI).length from rfl] at h6
      have hF6 : Frm NoS w w6 := grown_frm (HF3.out.alloc _) HGR6.out (fun k hk => by simp [Value.ownBlock] at hk)
      exact ⟨v6, rfl, RefIn.of_own h6 (by simp), hF6.no⟩
  | cons y l =>
    obtain ⟨A2, c2, he, _, _, _, hc⟩ := HR3.out
    simp only [Value.slice.injEq] at he
    obtain ⟨rfl, _, rfl⟩ := he
    obtain ⟨b, o, rfl, hok, _⟩ := hc (by simp)
    have HCL := Lib.hid (HR3.out.cells)
    clear hc
    generalize hll : y :: l = L at *
    have HLL := Lib.hid hll
    clear hll
    have hL0 : 0 < L.length := by rw [← HLL.out]; simp
    go_wp2_with (first | (at_builtin; refine wpList_append_own_at _ rfl _ _ 78 rfl w.heap.size 62 i0 _ 3 40 Try.underlying78 hi0 hz0 hz1 hz2 rfl (by decide) v5 (0 + L.length) ([] ++ refRow L) rfl (HOWN5.out.alloc _) ⟨w5.heap.size, 0, none⟩ 1 1 (refCells x) rfl rfl (fun j u hj => by rw [Addr.add_lit, World.cell?_alloc_at _ _ _ _ rfl, Nat.zero_add]; show (refCells x).toArray[j]? = some u; rw [List.getElem?_toArray]; exact hj) (fun u hu => by simp [refCells] at hu; rcases hu with rfl | rfl | rfl <;> rfl) (by unfold maxLen; omega) (by omega) (by have := hsz5; simp; omega) ?_; intro v6 w6 hown6 hgr6 hnil6 hat6; have HOWN6 := Lib.hid hown6; have HGR6 := Lib.hid hgr6; clear hown6 hgr6 hnil6 hat6) | (at_builtin; refine wpList_append_own_at _ rfl _ _ 78 rfl w.heap.size 62 i0 _ 3 40 Try.underlying78 hi0 hz0 hz1 hz2 rfl (by decide) (.slice none 0 0) 0 [] rfl (World.ownsRow_nil _ _ _ _) ⟨b, o, none⟩ L.length cap (refRow L) rfl hrl HCL.out refRow_one (by unfold maxLen; omega) (by omega) hsz ?_; intro v5 w5 hown5 hgr5 hnil5 hat5; clear HCL; have q0 := hgr5.cell q0 (by simp [Value.ownBlock]); have q1 := hgr5.cell q1 (by simp [Value.ownBlock]); have q2 := hgr5.cell q2 (by simp [Value.ownBlock]); have hsz5 := Nat.le_trans hsz hgr5.size; have hq5 := Nat.lt_of_lt_of_le (World.block_lt_of_cell? w5 _ q0) (Nat.le_refl _); have HOWN5 := Lib.hid hown5; have HGR5 := Lib.hid hgr5; clear hown5 hgr5 hnil5 hat5))
    go_ret2
    have hrow : refRow L ++ refCells x = refRow (L ++ [x]) := by rw [refRow_append]; simp [refRow]
    have h6 := HOWN6.out
    rw [List.nil_append, hrow, Nat.zero_add, show L.length + 1 = (L ++ [x]).length from by simp] at h6
    have hF5 : Frm NoS w w5 := grown_frm HF3.out HGR5.out (fun k hk => by simp [Value.ownBlock] at hk)
    have hF6 : Frm NoS w w6 := grown_frm (hF5.alloc _) HGR6.out (fun k hk => (HOWN5.out.lt k hk).1)
    exact ⟨v6, rfl, RefIn.of_own h6 (by simp; omega), hF6.no⟩
end Go.Proofs.Ytpihldeikdiniaa
