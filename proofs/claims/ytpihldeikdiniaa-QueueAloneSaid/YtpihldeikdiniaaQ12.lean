/- Package queue: gone. -/
import Derived.Test.YtpihldeikdiniaaQ11
namespace Go.Proofs.Ytpihldeikdiniaa
open Go.RowKit
set_option linter.unusedVariables false
set_option linter.unusedSimpArgs false
def GonePost (tg : Nat → Nat) (w : World) (q bl T : Nat) (B I : Int) (m : Nat → List QI) (t i : Nat) (x : QI) (e : Ending) (w' : World) : Prop :=
  ∃ hv bv, e = .returned (.agg #[.int .i64 x.num, hv, bv]) ∧ BytesIn (fun k => tg k = 3) w' hv x.h ∧ BytesIn (fun k => tg k = 3) w' bv x.b ∧ QRep tg w' q bl T B I (upd m t ((m t).eraseIdx i)) ∧ Frm (LineS tg t) w w'
theorem qbytes_erase {l : List QI} {i : Nat} {x : QI} (h : l[i]? = some x) : qbytes (l.eraseIdx i) = qbytes l - x.size := by
  induction l generalizing i with
  | nil => simp at h
  | cons y l ih =>
    cases i with
    | zero =>
      have : y = x := by simpa using h
      subst this
      simp [qbytes]; omega
    | succ i =>
      have := ih (by simpa using h)
      simp only [List.eraseIdx_cons_succ, qbytes, this]
      omega
theorem qbytes_ge {l : List QI} {i : Nat} {x : QI} (h : l[i]? = some x) : x.size ≤ qbytes l := by
  have := qbytes_erase h
  have := qbytes_nn (l.eraseIdx i)
  omega
theorem gone_fin {tg : Nat → Nat} {w W0 w6 W : World} {q bl T t i g : Nat} {B I cv : Int} {m : Nat → List QI} {x : QI} {r' : List (List Value)} {hv bv v6 : Value} (h : QRep tg w q bl T B I m) (ht : t < T) (hi : (m t)[i]? = some x) (hg : tg g = 4 + t)
    (hF0 : Frm NoS w W0) (hf6 : Frm (fun k _ => k = g) W0 w6) (hl6 : LineIn (fun k => tg k = 4 + t) (fun k => tg k = 3) w6 v6 ((m t).eraseIdx i) r')
    (hF : Frm (fun k j => (k = bl ∧ (j = t * 2 ∨ j = t * 2 + 1)) ∨ w.heap.size ≤ k) w6 W)
    (hv1 : W.cell? ⟨bl, t * 2, none⟩ = some v6) (hc1 : W.cell? ⟨bl, t * 2 + 1, none⟩ = some (.int .i64 cv)) (hcv : cv = qbytes (m t) - x.size)
    (h1 : BytesIn (fun k => tg k = 3) w hv x.h) (h2 : BytesIn (fun k => tg k = 3) w bv x.b) :
    BytesIn (fun k => tg k = 3) W hv x.h ∧ BytesIn (fun k => tg k = 3) W bv x.b ∧ QRep tg W q bl T B I (upd m t ((m t).eraseIdx i)) ∧ Frm (LineS tg t) w W := by
  have hall : Frm (LineS tg t) w W := ((hF0.mono (fun _ _ _ h => h.elim)).then_ hf6 (fun k j _ e => by rw [e]; exact .inl hg)).then_ hF (fun k j hk e => by
    rcases e with ⟨rfl, e⟩ | e
    · exact .inr ⟨h.tl, e⟩
    · omega)
  have hno : ∀ k j, tg k = 3 → ¬ LineS tg t k j := fun k j hk hS => by unfold LineS at hS; omega
  refine ⟨h1.frm hall hno, h2.frm hall hno, h.turn ht hall hv1 (hl6.frm hF (fun k j hk e => ?_) (fun k j hk e => ?_)) (by rw [hc1, hcv, qbytes_erase hi]) ?_, hall⟩
  · have hk : tg k = 4 + t := hk
    rcases e with ⟨rfl, e⟩ | e
    · have := h.tl; omega
    · have := h.lt k (by omega); omega
  · have hk : tg k = 3 := hk
    rcases e with ⟨rfl, e⟩ | e
    · have := h.tl; omega
    · have := h.lt k (by omega); omega
  · have := h.lim t ht
    have h3 := qbytes_erase hi
    have h4 : 0 ≤ x.size := by unfold QI.size; omega
    omega
set_option maxRecDepth 100000 in
set_option maxHeartbeats 3200000 in
theorem gone_yes {tg : Nat → Nat} {q bl T t i : Nat} {B I : Int} {m : Nat → List QI} {x : QI} (w : World) (h : QRep tg w q bl T B I m) (ht : t < T) (hi : (m t)[i]? = some x) :
    Calls Try.prog 75 #[.pointer (some ⟨bl, t * 2, none⟩), .int .i64 (i : Int)] w (GonePost tg w q bl T B I m t i x) := by
  have hil := (List.getElem?_eq_some_iff.1 hi).1
  have hcn := h.cnt t ht
  have hlim := h.lim t ht
  have hB := h.B1
  obtain ⟨v, r, hcv, hlv⟩ := h.line t ht
  have hfew := hlv.few
  obtain ⟨g, cap, hv, bv, rfl, hg, hgl, hln, hcm, hc0, hc1, hc2, hbh, hbb, hfz, hr⟩ := hlv.at_ hi
  have HD : Hid (∀ W, Frm NoS w W → Calls Try.prog 110 #[.slice (some ⟨g, 0, none⟩) (m t).length cap, .int .i64 (i : Int), .int .i64 ((i : Int) + 1)] W (DelPost (fun k => tg k = 4 + t) (fun k => tg k = 3) W g cap i (m t))) := fun W hf => by
    rw [show ((i : Int) + 1) = ((i + 1 : Nat) : Int) from by omega]
    exact delete_one W (hlv.frm hf (fun _ _ _ h => h) (fun _ _ _ h => h)) rfl hil (fun k hk e => by have h2 : tg k = 3 := hk; have h3 : tg g = 4 + t := hg; rw [e] at h2; omega)
  have HQ := Lib.hid h
  have H1 := Lib.hid hbh
  have H2 := Lib.hid hbb
  obtain ⟨A, c, rfl, _, _, hb1, _⟩ := hbh
  obtain ⟨A', c', rfl, _, _, hb2, _⟩ := hbb
  have hblt : bl < w.heap.size := World.block_lt_of_cell? w _ hcv
  have hgb : ¬ g = bl := fun e => by have h2 : tg g = 4 + t := hg; have h3 := h.tl; rw [e] at h2; omega
  have hbg : ¬ bl = g := fun e => hgb e.symm
  obtain ⟨⟨hne, hne1, hne2, hne3, hne4, hne5⟩, hlt1, hlt2, hlt3, hlt4, hlt5⟩ := ne_new hblt
  obtain ⟨⟨hge, hge1, hge2, hge3, hge4, hge5⟩, hgt1, hgt2, hgt3, hgt4, hgt5⟩ := ne_new hgl
  have hfb := h.fz (t * 2)
  have hfb1 := h.fz (t * 2 + 1)
  have HG := Lib.hid hg
  clear h hlv hg hr
  generalize hlen : (m t).length = ln at *
  generalize hqb : qbytes (m t) = nb at *
  have HLEN := Lib.hid hlen
  have HQB := Lib.hid hqb
  have HI := Lib.hid hi
  have hge0 : x.size ≤ nb := by rw [← hqb]; exact qbytes_ge hi
  have hxs : x.size = (x.h.length : Int) + (x.b.length : Int) := rfl
  have hw1 : IntKind.i64.wrap (nb - ((x.h.length : Int) + (x.b.length : Int))) = nb - ((x.h.length : Int) + (x.b.length : Int)) := IntWalk.i64_in _ ⟨by omega, by omega⟩
  clear hlen hqb hi hge0 hxs
  go_enter Try.func75, Try.ntmps75
  go_wp2_with fail
  have hW0 : ∃ W0, W0 = (w.alloc (.cells #[.int .i64 0, .slice none 0 0, .slice none 0 0] 57)).alloc (.cells #[.int .i64 x.num, .slice A x.h.length c, .slice A' x.b.length c'] 57) := ⟨_, rfl⟩
  obtain ⟨W0, hW0⟩ := hW0
  rw [← hW0]
  have hF0 : Frm NoS w W0 := by rw [hW0]; exact Frm.alloc (Frm.alloc (Frm.refl _ _) _) _
  have hs0 : W0.heap.size = w.heap.size + 2 := by rw [hW0]; simp
  have p0 : W0.cell? ⟨w.heap.size + 1, 0, none⟩ = some (.int .i64 x.num) := by rw [hW0]; exact World.cell?_alloc_at _ _ _ _ (by simp)
  have p1 : W0.cell? ⟨w.heap.size + 1, 1, none⟩ = some (.slice A x.h.length c) := by rw [hW0]; exact World.cell?_alloc_at _ _ _ _ (by simp)
  have p2 : W0.cell? ⟨w.heap.size + 1, 2, none⟩ = some (.slice A' x.b.length c') := by rw [hW0]; exact World.cell?_alloc_at _ _ _ _ (by simp)
  have z0 : W0.cell? ⟨w.heap.size, 0, none⟩ = some (.int .i64 0) := by rw [hW0, World.cell?_alloc_lt _ _ _ (by simp)]; exact World.cell?_alloc_at _ _ _ _ rfl
  have z1 : W0.cell? ⟨w.heap.size, 1, none⟩ = some (.slice none 0 0) := by rw [hW0, World.cell?_alloc_lt _ _ _ (by simp)]; exact World.cell?_alloc_at _ _ _ _ rfl
  have z2 : W0.cell? ⟨w.heap.size, 2, none⟩ = some (.slice none 0 0) := by rw [hW0, World.cell?_alloc_lt _ _ _ (by simp)]; exact World.cell?_alloc_at _ _ _ _ rfl
  have zf : ∀ j, W0.frozen? ⟨w.heap.size, j, none⟩ = false := fun j => by rw [hW0, World.frozen?_alloc_past _ _ _ (by simp)]; exact World.frozen?_alloc_at _ _ _ _ rfl
  clear hW0
  refine (HD.out W0 hF0).mono ?_
  clear HD
  rintro rr w6 ⟨r', rfl, hl6, hf6⟩
  have hgs : ∀ k, k = w.heap.size ∨ k = w.heap.size + 1 ∨ k = bl → ¬ k = g := fun k hk => by rcases hk with rfl | rfl | rfl <;> omega
  have a0 := hf6.keep p0 (by simp; omega)
  have a1 := hf6.keep p1 (by simp; omega)
  have a2 := hf6.keep p2 (by simp; omega)
  have b0 := hf6.keep z0 (by simp; omega)
  have b1 := hf6.keep z1 (by simp; omega)
  have b2 := hf6.keep z2 (by simp; omega)
  have c0 := hf6.keepf z0 (zf 0) (j := 0) (by simp; omega)
  have c1 := hf6.keepf z1 (zf 1) (j := 0) (by simp; omega)
  have c2 := hf6.keepf z2 (zf 2) (j := 0) (by simp; omega)
  have d0 := hf6.keep (hF0.keep hcv (fun h => h)) (by simp; omega)
  have d1 := hf6.keep (hF0.keep hcn (fun h => h)) (by simp; omega)
  have e0 := hf6.keepf (hF0.keep hcv (fun h => h)) (hF0.keepf hcv hfb (j := 0) (fun h => h)) (j := 0) (by simp; omega)
  have e1 := hf6.keepf (hF0.keep hcn (fun h => h)) (hF0.keepf hcn hfb1 (j := 0) (fun h => h)) (j := 0) (by simp; omega)
  have hs6 := hf6.size
  have HF6 := Lib.hid (And.intro hF0 (And.intro hs0 hf6))
  have HL6 := Lib.hid hl6
  clear p0 p1 p2 z0 z1 z2 zf hF0 hs0 hf6 hl6 hcv hcn hfb hfb1 hfz hc0 hc1 hc2 hgs
  go_wp2_with fail
  have hW7 : ∃ W7, W7 = w6.setCell ⟨bl, t * 2, none⟩ (.slice (some ⟨g, 0, none⟩) ((m t).length - 1) cap) := ⟨_, rfl⟩
  obtain ⟨W7, hW7⟩ := hW7
  rw [← hW7]
  have hF7 : Frm (fun k j => k = bl ∧ j = t * 2) w6 W7 := by rw [hW7]; exact (Frm.refl _ _).set_old (p := ⟨bl, t * 2, none⟩) ⟨rfl, rfl⟩ _
  have d7 : W7.cell? ⟨bl, t * 2, none⟩ = some (.slice (some ⟨g, 0, none⟩) ((m t).length - 1) cap) := by rw [hW7]; exact World.cell?_setCell_same _ _ _ d0
  have a07 := hF7.keep a0 (by simp; omega)
  have a17 := hF7.keep a1 (by simp; omega)
  have a27 := hF7.keep a2 (by simp; omega)
  have b07 := hF7.keep b0 (by simp; omega)
  have b17 := hF7.keep b1 (by simp; omega)
  have b27 := hF7.keep b2 (by simp; omega)
  have c07 := hF7.keepf b0 c0 (j := 0) (by simp; omega)
  have c17 := hF7.keepf b1 c1 (j := 0) (by simp; omega)
  have c27 := hF7.keepf b2 c2 (j := 0) (by simp; omega)
  have d17 := hF7.keep d1 (by simp)
  have e17 := hF7.keepf d1 e1 (j := t * 2 + 1) (by simp)
  have l0 : w.heap.size < W7.heap.size := World.block_lt_of_cell? W7 _ b07
  have l1 : w.heap.size + 1 < W7.heap.size := World.block_lt_of_cell? W7 _ a07
  have l2 : bl < W7.heap.size := World.block_lt_of_cell? W7 _ d17
  have l0' : ¬ w.heap.size = W7.heap.size := Nat.ne_of_lt l0
  have l1' : ¬ w.heap.size + 1 = W7.heap.size := Nat.ne_of_lt l1
  have l2' : ¬ bl = W7.heap.size := Nat.ne_of_lt l2
  have HF7 := Lib.hid hF7
  clear hW7 hF7 a0 a1 a2 b0 b1 b2 c0 c1 c2 d0 d1 e0 e1
  go_region_law (first | (go_simp; go_at_call 36; refine (size_any _ _ _ _ _ _ _ _ hb1 hb2).mono ?_; rintro r w7 ⟨rfl, rfl⟩))
  all_goals clear hw1
  all_goals go_wp2
  all_goals
    have hne' : ¬ w.heap.size = bl := fun e => hne e.symm
    refine bodyPost_ret (v := .agg #[.int .i64 x.num, .slice A x.h.length c, .slice A' x.b.length c']) (by simp [results, Try.results75, go_sem, b07, b17, b27, World.cell?_alloc_lt, l0, hne, hne']) rfl ?_
    have hsz := HF6.out.2.1
    have hF8 : Frm (fun k j => (k = bl ∧ (j = t * 2 ∨ j = t * 2 + 1)) ∨ w.heap.size ≤ k) w6 (((((W7.setCell ⟨bl, t * 2 + 1, none⟩ (.int .i64 (nb - ((x.h.length : Int) + (x.b.length : Int))))).setCell ⟨w.heap.size, 0, none⟩ (.int .i64 x.num)).setCell ⟨w.heap.size, 1, none⟩ (.slice A x.h.length c)).setCell ⟨w.heap.size, 2, none⟩ (.slice A' x.b.length c')).alloc (.cells #[.int .i64 x.num, .slice A x.h.length c, .slice A' x.b.length c'] 57)).drew :=
      ((((((HF7.out.mono (fun k j _ h => .inl ⟨h.1, .inl h.2⟩)).set_old (p := ⟨bl, t * 2 + 1, none⟩) (.inl ⟨rfl, .inr rfl⟩) _).set_old (p := ⟨w.heap.size, 0, none⟩) (.inr (Nat.le_refl _)) _).set_old (p := ⟨w.heap.size, 1, none⟩) (.inr (Nat.le_refl _)) _).set_old (p := ⟨w.heap.size, 2, none⟩) (.inr (Nat.le_refl _)) _).alloc _).drew
    obtain ⟨q1, q2, q3, q4⟩ := gone_fin (cv := nb - ((x.h.length : Int) + (x.b.length : Int))) HQ.out ht HI.out HG.out HF6.out.1 HF6.out.2.2 HL6.out hF8 (by simp [World.cell?_alloc_lt, World.cell?_setCell_other, d7, hne, hne', l2, l0]) (by simp [World.cell?_alloc_lt, World.cell?_setCell_other, World.cell?_setCell_same _ _ _ d17, hne, hne', l2, l0]) (by rw [HQB.out]; rfl) H1.out H2.out
    exact ⟨_, _, rfl, q1, q2, q3, q4⟩
end Go.Proofs.Ytpihldeikdiniaa
