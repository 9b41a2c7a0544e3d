/- Package squintref18: Drop, walked. -/
import Derived.Test.YtpihldeikdiniaaQ23
namespace Go.Proofs.Ytpihldeikdiniaa
open Go.RowKit
set_option linter.unusedVariables false
set_option linter.unusedSimpArgs false
def DropRel (w : World) (l : List QI) (n : Int) (v b i : Value) (wr : World) : Prop :=
  ∃ k, k ≤ l.length ∧ i = .int .i64 (k : Int) ∧ b = .bool (hasN n (l.take k)) ∧ wr.ownsRow w.heap.size 62 3 v (dropN n (l.take k)).length (refRow (dropN n (l.take k))) ∧ Frm NoS w wr
set_option maxRecDepth 100000 in
set_option maxHeartbeats 6400000 in
theorem refDrop_any {ok : Nat → Prop} {v : Value} {l : List QI} (n : Int) (w : World) (h : RefIn ok w v l) (hl4 : l.length ≤ 4096) :
    Calls Try.prog 78 #[v, .int .i64 n] w (RefNewPost w (dropN n l)) := by
  obtain ⟨i0, hi0, hz0, hz1, hz2⟩ := info_parts Try.infoRef
  have HR := Lib.hid h
  obtain ⟨A, cap, rfl, hl, hm, hlb, hc⟩ := h
  have HC := Lib.hid hc
  clear hc
  go_enter Try.func78, Try.ntmps78
  go_wp2_with fail
  go_loopw [5, 6, 7] (fun v b i wr => DropRel w l n v b i wr) (fun _ _ i _ => l.length - (intOf i).toNat)
  case atStart => exact ⟨0, Nat.zero_le _, rfl, rfl, World.ownsRow_nil _ _ _ _, Frm.refl _ _⟩
  case round =>
    obtain ⟨k, hk, rfl, rfl, hown, hf⟩ := hrel
    have hdl := dropN_len n (l.take k)
    have hdl2 : (dropN n (l.take k)).length ≤ 4096 := by rw [hdl]; split <;> simp <;> omega
    by_cases hlt : k < l.length
    · have hx := List.getElem?_eq_getElem hlt
      generalize l[k] = x at hx
      obtain ⟨b, o, rfl, hok, hcell⟩ := HC.out (by omega)
      obtain ⟨h1, h2, h3⟩ := hcell k x hx
      have g1 := hf.keep h1 (fun h => h)
      have g2 := hf.keep h2 (fun h => h)
      have g3 := hf.keep h3 (fun h => h)
      have htk : l.take (k + 1) = l.take k ++ [x] := by rw [List.take_add_one, hx]; rfl
      have HHS : Hid (hasN n (l.take (k + 1)) = (hasN n (l.take k) || decide (x.num = n))) := by unfold Hid; rw [htk, hasN_snoc]
      have HDS : Hid (dropN n (l.take (k + 1)) = if hasN n (l.take k) = false ∧ x.num = n then dropN n (l.take k) else dropN n (l.take k) ++ [x]) := by unfold Hid; rw [htk, dropN_snoc]
      have HOWN := Lib.hid hown
      have HF := Lib.hid hf
      have hsz := hf.size
      clear hown hf h1 h2 h3 hcell hx htk hdl
      generalize hhd : hasN n (l.take k) = hd at *
      generalize hdd : dropN n (l.take k) = D at *
      clear hhd hdd
      by_cases hcase : hd = false ∧ x.num = n
      · obtain ⟨rfl, hxn⟩ := hcase
        subst hxn
        go_wp2_with fail
        go_roundw
        case rel => exact ⟨k + 1, by omega, by go_num, by rw [HHS.out]; simp, by rw [HDS.out, if_pos ⟨rfl, rfl⟩]; exact HOWN.out, HF.out⟩
        case measure => simp [intOf]; omega
      · have HNC := Lib.hid hcase
        have hdx : hd = true ∨ (hd = false ∧ ¬ x.num = n) := by cases hd with
          | true => exact .inl rfl
          | false => exact .inr ⟨rfl, fun e => hcase ⟨rfl, e⟩⟩
        clear hcase
        rcases hdx with rfl | ⟨rfl, hxn⟩
        all_goals
          go_wp2_with (at_builtin; refine wpList_append_own_at _ rfl _ _ 78 rfl w.heap.size 62 i0 _ 3 40 Try.underlying78 hi0 hz0 hz1 hz2 rfl (by decide) _ D.length (refRow D) rfl (HOWN.out.alloc _) ⟨wr.heap.size, 0, none⟩ 1 1 (refCells x) rfl rfl (fun j u hj => by rw [Addr.add_lit, World.cell?_alloc_at _ _ _ _ rfl, Nat.zero_add]; show (refCells x).toArray[j]? = some u; rw [List.getElem?_toArray]; exact hj) (fun u hu => by simp [refCells] at hu; rcases hu with rfl | rfl | rfl <;> rfl) (by unfold maxLen; omega) (by omega) (by have := hsz; simp; omega) ?_; intro v6 w6 hown6 hgr6 hnil6 hat6; have HOWN6 := Lib.hid hown6; have HGR6 := Lib.hid hgr6; clear hown6 hgr6 hnil6 hat6)
          go_roundw
          case rel =>
            have h6 := HOWN6.out
            have hrow : refRow D ++ refCells x = refRow (D ++ [x]) := by rw [refRow_append]; simp [refRow]
            rw [hrow, show D.length + 1 = (D ++ [x]).length from by simp] at h6
            have hF6 : Frm NoS w w6 := grown_frm (HF.out.alloc _) HGR6.out (fun k hk => (HOWN.out.lt k hk).1)
            exact ⟨k + 1, by omega, by go_num, by rw [HHS.out]; simp [*], by rw [HDS.out, if_neg HNC.out]; exact h6, hF6⟩
          case measure => simp [intOf]; omega
    · obtain rfl : k = l.length := by omega
      have HOWN := Lib.hid hown
      have HF := Lib.hid hf
      clear hown hf hdl
      go_wp2_with fail
      go_ret
      have h6 := HOWN.out
      rw [List.take_length] at h6 hdl2
      exact ⟨_, rfl, RefIn.of_own h6 (by omega), HF.out.no⟩
end Go.Proofs.Ytpihldeikdiniaa
