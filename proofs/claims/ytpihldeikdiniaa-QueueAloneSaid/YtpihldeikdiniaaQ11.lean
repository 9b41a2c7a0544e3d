/- Package slices: Delete of one item of a line, walked. -/
import Derived.Test.YtpihldeikdiniaaQ10
namespace Go.Proofs.Ytpihldeikdiniaa
open Go.RowKit
set_option linter.unusedVariables false
set_option linter.unusedSimpArgs false
def DelPost (okl okb : Nat → Prop) (w : World) (g cap i : Nat) (l : List QI) (e : Ending) (w' : World) : Prop :=
  ∃ r', e = .returned (.slice (some ⟨g, 0, none⟩) (l.length - 1) cap) ∧ LineIn okl okb w' (.slice (some ⟨g, 0, none⟩) (l.length - 1) cap) (l.eraseIdx i) r' ∧ Frm (fun k _ => k = g) w w'
theorem del_fin {okl okb : Nat → Prop} {w W : World} {g cap i : Nat} {l : List QI} {r : List (List Value)} (h : LineIn okl okb w (.slice (some ⟨g, 0, none⟩) l.length cap) l r) (hi : i < l.length) (hd : ∀ k, okb k → k ≠ g)
    (hW : W = (w.drew.setCells g (i * 3) (r.flatten.drop ((i + 1) * 3))).setCells g ((l.length - 1) * 3) [.int .i64 0, .slice none 0 0, .slice none 0 0]) :
    ∃ r', LineIn okl okb W (.slice (some ⟨g, 0, none⟩) (l.length - 1) cap) (l.eraseIdx i) r' ∧ Frm (fun k _ => k = g) w W := by
  have hf : Frm (fun k _ => k = g) w W := by rw [hW]; exact frm_setCells (fun _ => rfl) _ _ (frm_setCells (fun _ => rfl) _ _ (Frm.refl _ _).drew)
  have hlen : (l.eraseIdx i).length = l.length - 1 := by rw [List.length_eraseIdx]; simp [hi]
  refine ⟨r.eraseIdx i, { items := (h.items.erase i).frm hf (fun k j hk hS => hd k hk hS), own := ?_, ok := fun k hk => h.ok k hk, few := by rw [hlen]; have := h.few; omega }, hf⟩
  have h1 := own_setCells [.int .i64 0, .slice none 0 0, .slice none 0 0] ((l.length - 1) * 3) _ _ (own_setCells (r.flatten.drop ((i + 1) * 3)) (i * 3) w.drew r.flatten h.own.drew)
  have h2 := own_shrink h1 (n' := l.length - 1) (by omega)
  rw [hlen, hW, h.items.eraseFlat i hi]
  have hfl := h.items.flat
  rw [layL_eq (r.flatten.drop ((i + 1) * 3)) r.flatten (i * 3) (by rw [List.length_drop, hfl]; omega)] at h2
  have hz : (r.flatten.drop ((i + 1) * 3)).length = l.length * 3 - (i + 1) * 3 := by rw [List.length_drop, hfl]
  have hy : (r.flatten.take (i * 3)).length = i * 3 := by rw [List.length_take, hfl]; omega
  have hx : (r.flatten.drop (i * 3 + (r.flatten.drop ((i + 1) * 3)).length)).length = 3 := by rw [List.length_drop, hz, hfl]; omega
  rw [layL_eq _ _ _ (by rw [List.length_append, List.length_append, hx, hy, hz]; simp only [List.length_cons, List.length_nil]; omega)] at h2
  have e1 : (List.take (i * 3) r.flatten ++ List.drop ((i + 1) * 3) r.flatten).length = (l.length - 1) * 3 := by rw [List.length_append, hy, hz]; omega
  rw [List.append_assoc (List.take ((l.length - 1) * 3) _), List.take_append_of_le_length (by rw [List.length_take, List.length_append, List.length_append, hx, hy, hz]; omega), List.take_take, Nat.min_self, List.take_append_of_le_length (by omega), List.take_of_length_le (by omega)] at h2
  exact h2
set_option maxRecDepth 100000 in
set_option maxHeartbeats 1600000 in
theorem delete_one {okl okb : Nat → Prop} {g cap i j : Nat} {l : List QI} {r : List (List Value)} (w : World) (h : LineIn okl okb w (.slice (some ⟨g, 0, none⟩) l.length cap) l r) (hj : j = i + 1) (hi : i < l.length) (hd : ∀ k, okb k → k ≠ g) :
    Calls Try.prog 110 #[.slice (some ⟨g, 0, none⟩) l.length cap, .int .i64 (i : Int), .int .i64 (j : Int)] w (DelPost okl okb w g cap i l) := by
  obtain ⟨i0, hi0, hz0, hz1, hz2⟩ := info_parts Try.infoItem
  have hown := h.own
  have hfew := h.few
  have hfl := h.items.flat
  have hcaps : l.length ≤ cap ∧ cap ≤ maxLen := by
    rcases h.own.2 with ⟨h', _⟩ | ⟨g', cap', cur, h', _, _, h3, h4, _⟩
    · simp at h'
    · simp only [Value.slice.injEq, Option.some.injEq, Addr.mk.injEq, and_true, true_and] at h'
      obtain ⟨rfl, rfl⟩ := h'
      exact ⟨h3, h4⟩
  have hcell : ∀ j u, r.flatten[j]? = some u → w.cell? ⟨g, j, none⟩ = some u := fun j u hj => by
    have hj2 := (List.getElem?_eq_some_iff.1 hj).1
    rw [hown.cellAt j (by rw [← hown.1]; exact hj2)]; exact hj
  have hthere : ∀ j, j < l.length * 3 → (w.cell? ⟨g, j, none⟩).isSome = true := fun j hj => by
    rw [hcell j (r.flatten[j]'(by omega)) (List.getElem?_eq_getElem (by omega))]; rfl
  have hfz : ∀ j, w.frozen? ⟨g, j, none⟩ = false := fun j => hown.frozenAt j
  have hone : Hid (∀ u ∈ r.flatten, u.oneCell' = true) := by
    intro u hu
    obtain ⟨c, hc, huc⟩ := List.mem_flatten.1 hu
    have : ∀ {l : List QI} {r : List (List Value)}, Items okb w l r → ∀ c ∈ r, ∀ u ∈ c, u.oneCell' = true := by
      intro l r h
      induction h with
      | nil => intro c hc; cases hc
      | cons h1 h2 ih =>
        intro c hc
        rcases List.mem_cons.1 hc with rfl | hc
        · obtain ⟨hv, bv, rfl, ⟨A, c1, rfl, _⟩, ⟨A2, c2, rfl, _⟩⟩ := h1
          intro u hu
          simp at hu
          rcases hu with rfl | rfl | rfl <;> rfl
        · exact ih c hc
    exact this h.items c hc u huc
  obtain ⟨news, hnews⟩ : ∃ news, news = r.flatten.drop (j * 3) := ⟨_, rfl⟩
  have hnl : news.length = (l.length - j) * 3 := by rw [hnews, List.length_drop, hfl]; omega
  obtain ⟨A, hA, hsrc⟩ : ∃ A : Addr, (if cap = j then some (⟨g, 0, none⟩ : Addr) else some ⟨g, j * 3, none⟩) = some A ∧ Hid (∀ t u, news[t]? = some u → w.drew.cell? (A.add t) = some u) := by
    by_cases hc : cap = j
    · refine ⟨⟨g, 0, none⟩, by simp [hc], fun t u hu => ?_⟩
      have h0 : news.length = 0 := by rw [hnl]; omega
      rw [List.length_eq_zero_iff.1 h0] at hu
      simp at hu
    · refine ⟨⟨g, j * 3, none⟩, by simp [hc], fun t u hu => ?_⟩
      rw [hnews, List.getElem?_drop] at hu
      rw [Addr.add_lit]
      exact hcell _ u hu
  have s1 : Hid (news.length = (l.length - j) * 3) := hnl
  have s2 : Hid (∀ u ∈ news, u.oneCell' = true) := fun u hu => hone.out u (List.mem_of_mem_drop (by rw [hnews] at hu; exact hu))
  have s3 : Hid (∀ t, t < news.length → (w.drew.cell? ⟨g, 0 + i * 3 + t, none⟩).isSome = true ∧ w.drew.frozen? ⟨g, 0 + i * 3 + t, none⟩ = false) := by
    intro t ht
    rw [hnl] at ht
    exact ⟨hthere _ (by omega), hfz _⟩
  obtain ⟨W1, hW1⟩ : ∃ W1, W1 = w.drew.setCells g (0 + i * 3) news := ⟨_, rfl⟩
  have hth1 : ∀ j, j < l.length * 3 → (W1.cell? ⟨g, j, none⟩).isSome = true := fun k hk => by rw [hW1]; exact World.isSome_setCells g news _ w.drew _ (hthere k hk)
  have hcl : ∀ ty, (Builtin.clear_ #[144] ty #[.slice (some ⟨g, (l.length - 1) * 3, none⟩) 1 (cap - (l.length - 1))]).run Try.prog W1 = .ok (.tuple #[]) (W1.setCells g ((l.length - 1) * 3) [.int .i64 0, .slice none 0 0, .slice none 0 0]) :=
    fun ty => clear_item W1 ty g _ _ (hth1 _ (by omega)) (hth1 _ (by omega)) (hth1 _ (by omega)) (fun j => by rw [hW1, World.frozen?_setCells]; exact hfz j)
  have hW : Hid (W1 = w.drew.setCells g (0 + i * 3) news) := hW1
  have hFin : Hid (∀ W, W = W1.setCells g ((l.length - 1) * 3) [.int .i64 0, .slice none 0 0, .slice none 0 0] → DelPost okl okb w g cap i l (.returned (.slice (some ⟨g, 0, none⟩) (l.length - 1) cap)) W) := by
    intro W e
    obtain ⟨r', h1, h2⟩ := del_fin h hi hd (W := W) (by rw [e, hW1, hnews, Nat.zero_add, hj])
    exact ⟨r', rfl, h1, h2⟩
  have hic : i ≤ cap := by omega
  have hjc : j ≤ cap := by omega
  have hil : j ≤ l.length := by omega
  have hij : i < j := by omega
  have hji : i + (l.length - j) = l.length - 1 := by omega
  have hjn : l.length - (l.length - 1) = 1 := by omega
  obtain ⟨hca, hcb⟩ := hcaps
  clear hj hW1 hcell hthere hfz h hown hnews hnl hth1 hfl hd
  generalize hnn : l.length = n at *
  go_enter Try.func110, Try.ntmps110
  go_wp2_with fail
  go_region_law (refine step_append_room rfl (.tmp 22) (.tmp 25) 144 rfl 57 i0 3 Try.underlying144 hi0 hz1 g 0 i cap (by simp [Act.eval, Act.put]) A (n - j) (cap - j) news (by simp [Act.eval, Act.put]) s1.out hsrc.out s2.out (by omega) s3.out ?_; rw [← hW.out])
  all_goals
    go_wp2
    go_ret
    exact hFin.out _ rfl
end Go.Proofs.Ytpihldeikdiniaa
