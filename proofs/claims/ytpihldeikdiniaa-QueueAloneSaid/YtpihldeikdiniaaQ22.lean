/- Package squintref18: Cut. -/
import Derived.Test.YtpihldeikdiniaaQ21
namespace Go.Proofs.Ytpihldeikdiniaa
open Go.RowKit
set_option linter.unusedVariables false
set_option linter.unusedSimpArgs false
def RefNewPost (w : World) (l : List QI) (e : Ending) (w' : World) : Prop :=
  ∃ v', e = .returned v' ∧ RefIn (fun k => w.heap.size ≤ k ∧ k < w'.heap.size) w' v' l ∧ Below w.heap.size w w'
theorem str_drop (l : List UInt8) (n : Nat) : (⟨l.toArray⟩ : ByteArray).extract n l.length = ⟨(l.drop n).toArray⟩ := by
  apply ByteArray.ext
  rw [ByteArray.data_extract]
  simp
  exact List.take_of_length_le (by simp)
set_option maxRecDepth 100000 in
set_option maxHeartbeats 3200000 in
theorem refCut_yes {ok : Nat → Prop} {v : Value} {x : QI} {l : List QI} (n : Nat) (w : World) (h : RefIn ok w v (x :: l)) (hn : n ≤ x.b.length) (hl2 : (x :: l).length ≤ 4096) :
    Calls Try.prog 79 #[v, .int .i64 (n : Int)] w (RefNewPost w (⟨x.num, x.h, x.b.drop n⟩ :: l)) := by
  obtain ⟨i0, hi0, hz0, hz1, hz2⟩ := info_parts Try.infoRef
  have hrl := refRow_len (x :: l)
  have HR3 := Lib.hid h
  obtain ⟨A, cap, rfl, hl, hm, hlb, hc⟩ := h
  obtain ⟨b, o, rfl, hok, _⟩ := hc (by simp)
  have HCL := Lib.hid (HR3.out.cells)
  have hz : (⟨x.b.toArray⟩ : ByteArray).size = x.b.length := by simp [ByteArray.size]
  have HL : Hid ((x :: l).length = l.length + 1) := rfl
  clear hc
  generalize hll : x :: l = L at *
  have HLL := Lib.hid hll
  clear hll
  have hL0 : 0 < L.length := by rw [← HLL.out]; simp
  go_enter Try.func79, Try.ntmps79
  go_wp2_with (at_builtin; refine wpList_append_own_at _ rfl _ _ 78 rfl w.heap.size 62 i0 _ 3 40 Try.underlying78 hi0 hz0 hz1 hz2 rfl (by decide) (.slice none 0 0) 0 [] rfl (World.ownsRow_nil _ _ _ _) ⟨b, o, none⟩ L.length cap (refRow L) rfl hrl HCL.out refRow_one (by unfold maxLen; omega) (by omega) (Nat.le_refl _) ?_; intro v5 w5 hown5 hgr5 hnil5 hat5; clear HCL; rw [List.nil_append, Nat.zero_add] at hown5; have HOWN5 := Lib.hid hown5; have HGR5 := Lib.hid hgr5; obtain ⟨g5, cap5, rfl, hb5, hlt5⟩ := World.ownsRow.form hown5 hL0; have k2 : w5.cell? ⟨g5, 2, none⟩ = some (.string ⟨x.b.toArray⟩) := (by rw [World.ownsRow.cellAt hown5 2 (by omega), ← HLL.out]; rfl); have k2f := World.ownsRow.frozenAt hown5 2; clear hown5 hgr5 hnil5 hat5)
  go_ret
  have hst := World.ownsRow.stored HOWN5.out 2 (.string ⟨(x.b.drop n).toArray⟩)
  have h6 := hst.1
  rw [← HLL.out, show (refRow (x :: l)).set 2 (.string ⟨(x.b.drop n).toArray⟩) = refRow (⟨x.num, x.h, x.b.drop n⟩ :: l) from rfl] at h6
  have hF5 : Frm NoS w w5 := grown_frm (Frm.refl _ _) HGR5.out (fun k hk => by simp [Value.ownBlock] at hk)
  have hF6 : Frm NoS w (w5.setCell ⟨g5, 2, none⟩ (.string ⟨(x.b.drop n).toArray⟩)) := hF5.set_new (p := ⟨g5, 2, none⟩) hb5 _
  refine ⟨.slice (some ⟨g5, 0, none⟩) L.length cap5, rfl, ?_, ?_⟩
  · rw [str_drop, ← HLL.out]
    have e1 := HLL.out
    have e2 : l.length + 1 = L.length := by rw [← e1]; rfl
    exact RefIn.of_own h6 (by simp only [List.length_cons]; omega)
  · rw [str_drop]; exact hF6.no
end Go.Proofs.Ytpihldeikdiniaa
