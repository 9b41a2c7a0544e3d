/- Package queue: Put. -/
import Derived.Test.YtpihldeikdiniaaQ3
import Derived.Deep.RegionLaw
namespace Go.Proofs.Ytpihldeikdiniaa
open Go.RowKit
set_option linter.unusedVariables false
set_option linter.unusedSimpArgs false
def PutPost (tg : Nat → Nat) (w : World) (q bl T : Nat) (B I : Int) (m : Nat → List QI) (t : Int) (x : QI) (e : Ending) (w' : World) : Prop :=
  ∃ tg', e = .returned (.int .i64 0) ∧ QRep tg' w' q bl T B I (fun k => if k = t.toNat then m k ++ [x] else m k) ∧ (∀ k, k < w.heap.size → tg' k = tg k) ∧ Frm (fun k _ => tg k = 2 ∨ tg k = 4 + t.toNat) w w'
/-- The blocks' meaning behind a Put: the new row, the new bytes. -/
def tgPut (tg : Nat → Nat) (n n5 gg t : Nat) : Nat → Nat := fun k => if k < n then tg k else if k = gg then 4 + t else if n < k ∧ k < n5 then 3 else 0
theorem Items.snoc {ok : Nat → Prop} {w : World} {l : List QI} {r : List (List Value)} {x : QI} {c : List Value} (h : Items ok w l r) (hx : ItemIn ok w x c) : Items ok w (l ++ [x]) (r ++ [c]) := h.append (.cons hx .nil)
theorem put_fin {tg : Nat → Nat} {w w5 w6 : World} {q bl T t gg cap : Nat} {B I : Int} {m : Nat → List QI} {x : QI} {v : Value} {r : List (List Value)} {c : List Value} (h : QRep tg w q bl T B I m) (ht : t < T)
    (hv : w.cell? ⟨bl, t * 2, none⟩ = some v) (hl : LineIn (fun k => tg k = 4 + t) (fun k => tg k = 3) w v (m t) r) (hlen : (m t).length < 4096) (hs : qbytes (m t) + x.size ≤ B)
    (h5 : Frm NoS w w5) (h56 : Frm (fun k _ => tg k = 4 + t) w5 w6) (hx : ItemIn (fun k => w.heap.size < k ∧ k < w5.heap.size) w5 x c)
    (hown : w6.ownsRow 0 57 3 (.slice (some ⟨gg, 0, none⟩) ((m t).length + 1) cap) ((m t).length + 1) (r.flatten ++ c)) (hat : v.ownBlock = some gg ∨ gg = w5.heap.size + 1) (hlt : gg < w6.heap.size) :
    let W := (w6.setCell ⟨bl, t * 2, none⟩ (.slice (some ⟨gg, 0, none⟩) ((m t).length + 1) cap)).setCell ⟨bl, t * 2 + 1, none⟩ (.int .i64 (qbytes (m t) + x.size))
    QRep (tgPut tg w.heap.size w5.heap.size gg t) W q bl T B I (fun k => if k = t then m k ++ [x] else m k) ∧ Frm (fun k _ => tg k = 2 ∨ tg k = 4 + t) w W := by
  intro W
  have tz : ∀ k, w.heap.size ≤ k → tg k = 0 := fun k hk => by
    by_cases e : tg k = 0
    · exact e
    · have := h.lt k e; omega
  have hbl : bl < w.heap.size := h.lt bl (by rw [h.tl]; decide)
  have hz5 := h5.size
  have hz6 := h56.size
  have h6 : Frm (fun k _ => tg k = 4 + t) w w6 := (Frm.mono h5 (fun _ _ _ hf => hf.elim)).trans h56
  have hset : Frm (fun k _ => tg k = 2) w6 W := ((Frm.refl _ _).set_old (p := ⟨bl, t * 2, none⟩) h.tl _).set_old (p := ⟨bl, t * 2 + 1, none⟩) h.tl _
  have hall : Frm (fun k _ => tg k = 2 ∨ tg k = 4 + t) w W := (h6.mono (fun _ _ _ hk => .inr hk)).trans (hset.mono (fun _ _ _ hk => .inl hk))
  have hggo : gg < w.heap.size → tg gg = 4 + t := fun hg => by
    rcases hat with hat | hat
    · exact hl.ok gg hat
    · omega
  have told : ∀ k, k < w.heap.size → tgPut tg w.heap.size w5.heap.size gg t k = tg k := fun k hk => by simp [tgPut, hk]
  have tgg : tgPut tg w.heap.size w5.heap.size gg t gg = 4 + t := by
    unfold tgPut
    by_cases e : gg < w.heap.size
    · rw [if_pos e]; exact hggo e
    · rw [if_neg e, if_pos rfl]
  have tby : ∀ k, w.heap.size < k ∧ k < w5.heap.size → tgPut tg w.heap.size w5.heap.size gg t k = 3 := fun k hk => by
    unfold tgPut
    rw [if_neg (by omega), if_neg ?_, if_pos hk]
    intro e
    subst e
    rcases hat with hat | hat
    · have := hl.ok k hat; have := tz k (by omega); omega
    · omega
  obtain ⟨v6, hv6⟩ := h6.keep hv (fun hk => by have h1 : tg bl = 4 + t := hk; rw [h.tl] at h1; omega) |> fun e => (⟨_, e⟩ : ∃ u, w6.cell? ⟨bl, t * 2, none⟩ = some u)
  have hc6 := h6.keep (h.cnt t ht) (fun hk => by have h1 : tg bl = 4 + t := hk; rw [h.tl] at h1; omega)
  have hq : QRep (tgPut tg w.heap.size w5.heap.size gg t) W q bl T B I (fun k => if k = t then m k ++ [x] else m k) := {
    tq := by rw [told q (h.lt q (by rw [h.tq]; decide))]; exact h.tq
    tl := by rw [told bl hbl]; exact h.tl
    T1 := h.T1
    B1 := h.B1
    I1 := h.I1
    c0 := hall.keep h.c0 (fun hk => by have h1 : tg q = 2 ∨ tg q = 4 + t := hk; rw [h.tq] at h1; omega)
    c1 := hall.keep h.c1 (fun hk => by have h1 : tg q = 2 ∨ tg q = 4 + t := hk; rw [h.tq] at h1; omega)
    c2 := hall.keep h.c2 (fun hk => by have h1 : tg q = 2 ∨ tg q = 4 + t := hk; rw [h.tq] at h1; omega)
    line := fun s hs' => by
      by_cases e : s = t
      · subst e
        refine ⟨_, r ++ [c], (World.cell?_setCell_other _ _ _ _ (by simp)).trans (World.cell?_setCell_same _ _ _ hv6), ?_⟩
        simp only [if_true]
        refine { items := ?_, own := ?_, ok := ?_, few := by simp; omega }
        · refine Items.snoc ?_ ?_
          · refine ((hl.items.frm hall (fun k j hk hS => by have h1 : tg k = 3 := hk; rw [h1] at hS; omega)).mono (fun k _ hk => ?_))
            have h1 : tg k = 3 := hk
            have := h.lt k (by omega)
            show tgPut tg w.heap.size w5.heap.size gg s k = 3
            rw [told k this]; exact h1
          · refine ((hx.frm h56 (fun k j hk hS => ?_)).frm hset (fun k j hk hS => ?_)).mono (fun k _ hk => tby k hk)
            · have h1 := tz k (by omega)
              have h2 : tg k = 4 + s := hS
              omega
            · have h1 := tz k (by omega)
              have h2 : tg k = 2 := hS
              omega
        · have : (r ++ [c]).flatten = r.flatten ++ c := by simp
          rw [this]
          have hlen2 : (m s ++ [x]).length = (m s).length + 1 := by simp
          rw [hlen2]
          exact own_frm hown hset (fun k hk j hS => by
            have e1 : gg = k := by simpa [Value.ownBlock] using hk
            subst e1
            have h2 : tg gg = 2 := hS
            by_cases e : gg < w.heap.size
            · have := hggo e; omega
            · have := tz gg (by omega); omega)
        · intro k hk
          have e1 : gg = k := by simpa [Value.ownBlock] using hk
          subst e1
          exact tgg
      · obtain ⟨vs, rs, hvs, hls⟩ := h.line s hs'
        have hvW : W.cell? ⟨bl, s * 2, none⟩ = some vs := (World.cell?_setCell_other _ _ _ _ (by simp <;> omega)).trans ((World.cell?_setCell_other _ _ _ _ (by simp <;> omega)).trans (h6.keep hvs (fun hk => by have h1 : tg bl = 4 + t := hk; rw [h.tl] at h1; omega)))
        refine ⟨vs, rs, hvW, ?_⟩
        simp only [if_neg e]
        have hf := hls.frm hall (fun k j hk hS => by have h1 : tg k = 4 + s := hk; rw [h1] at hS; omega) (fun k j hk hS => by have h1 : tg k = 3 := hk; rw [h1] at hS; omega)
        refine { items := hf.items.mono (fun k _ hk => ?_), own := hf.own, ok := fun k hk => ?_, few := hf.few }
        · have h1 : tg k = 3 := hk
          show tgPut tg w.heap.size w5.heap.size gg t k = 3
          rw [told k (h.lt k (by omega))]; exact h1
        · have h1 : tg k = 4 + s := hf.ok k hk
          show tgPut tg w.heap.size w5.heap.size gg t k = 4 + s
          rw [told k (h.lt k (by omega))]; exact h1
    cnt := fun s hs' => by
      by_cases e : s = t
      · subst e
        simp only [if_true]
        rw [qbytes_append]
        have : qbytes [x] = x.size := by simp [qbytes]
        rw [this]
        exact World.cell?_setCell_same _ _ _ ((World.cell?_setCell_other _ _ _ _ (by simp)).trans hc6)
      · simp only [if_neg e]
        exact (World.cell?_setCell_other _ _ _ _ (by simp <;> omega)).trans ((World.cell?_setCell_other _ _ _ _ (by simp <;> omega)).trans (h6.keep (h.cnt s hs') (fun hk => by have h1 : tg bl = 4 + t := hk; rw [h.tl] at h1; omega)))
    fz := fun j => (World.frozen?_setCell _ _ _ _).trans ((World.frozen?_setCell _ _ _ _).trans ((h6.frozen (p := ⟨bl, j, none⟩) hbl (j := 0) (fun hk => by have h1 : tg bl = 4 + t := hk; rw [h.tl] at h1; omega)).trans (h.fz j)))
    lim := fun s hs' => by
      by_cases e : s = t
      · subst e
        simp only [if_true]
        rw [qbytes_append]
        have : qbytes [x] = x.size := by simp [qbytes]
        rw [this]; exact hs
      · simp only [if_neg e]; exact h.lim s hs'
    lt := fun k hk => by
      have hWs : W.heap.size = w6.heap.size := by simp [W]
      rw [hWs]
      unfold tgPut at hk
      by_cases e1 : k < w.heap.size
      · omega
      · rw [if_neg e1] at hk
        by_cases e2 : k = gg
        · omega
        · rw [if_neg e2] at hk
          by_cases e3 : w.heap.size < k ∧ k < w5.heap.size
          · omega
          · rw [if_neg e3] at hk; exact absurd rfl hk }
  exact ⟨hq, hall⟩
set_option maxRecDepth 100000 in
set_option maxHeartbeats 3200000 in
theorem put_yes {tg : Nat → Nat} {ok : Nat → Prop} {q bl T : Nat} {B I : Int} {m : Nat → List QI} {hv bv : Value} (t : Int) (x : QI) (w : World) (h : QRep tg w q bl T B I m) (hh : BytesIn ok w hv x.h) (hb : BytesIn ok w bv x.b)
    (h0 : 0 ≤ t) (h1 : t < T) (hl : ((m t.toNat).length : Int) < I) (hs : qbytes (m t.toNat) + x.size ≤ B) :
    Calls Try.prog 34 #[.pointer (some ⟨q, 0, none⟩), .int .i64 t, .agg #[.int .i64 x.num, hv, bv]] w (PutPost tg w q bl T B I m t x) := by
  have H1 : Hid (∀ W, Frm NoS w W → BytesIn ok W hv x.h) := fun W hf => hh.frm hf (fun _ _ _ h => h)
  have H2 : Hid (∀ W, Frm NoS w W → BytesIn ok W bv x.b) := fun W hf => hb.frm hf (fun _ _ _ h => h)
  obtain ⟨A, c, rfl, _, _, hb1, _⟩ := hh
  obtain ⟨A', c', rfl, _, _, hb2, _⟩ := hb
  obtain ⟨v, r, hcv, hlv⟩ := h.line t.toNat (by omega)
  have hcn := h.cnt t.toNat (by omega)
  have hB := h.B1
  have hI := h.I1
  have hnn := qbytes_nn (m t.toNat)
  obtain ⟨xn, xh, xb⟩ := x
  simp only [QI.size] at hs
  obtain ⟨Av, cv, rfl⟩ : ∃ A c, v = .slice A (m t.toNat).length c := by
    rcases hlv.own.2 with ⟨rfl, hz⟩ | ⟨g, cap, cur, rfl, _⟩
    · exact ⟨none, 0, by rw [hz]⟩
    · exact ⟨_, _, rfl⟩
  have hblt := World.block_lt_of_cell? w _ hcv
  have hqlt := World.block_lt_of_cell? w _ h.c0
  have hq1 := h.c1
  have hq2 := h.c2
  have HQ := Lib.hid h
  have HFZ := Lib.hid h.fz
  have HL := Lib.hid hlv
  have hfew := hlv.few
  have HOWN0 : Hid (∀ W, Frm NoS w W → W.ownsRow 0 57 3 (.slice Av (m t.toNat).length cv) (m t.toNat).length r.flatten) := fun W hf => own_frm hlv.own hf (fun _ _ _ h => h)
  have HNE : Hid (∀ k, (Value.slice Av (m t.toNat).length cv).ownBlock = some k → tg k = 4 + t.toNat) := hlv.ok
  have htl := h.tl
  have htz : Hid (∀ k, w.heap.size ≤ k → tg k = 0) := fun k hk => by
    by_cases e : tg k = 0
    · exact e
    · have := h.lt k e; omega
  have HO := Lib.hid (of_yes t (w.alloc (.cells #[.int .i64 xn, .slice A xh.length c, .slice A' xb.length c'] 57)) (h.frm (Frm.of_below (S := NoS) (bl_alloc (Below.refl _ _) _)) (fun _ _ _ h => h)) h0 h1)
  clear h hlv
  generalize hmm : (m t.toNat).length = n at *
  generalize hqq : qbytes (m t.toNat) = nb at *
  have HM := Lib.hid hmm
  have HTN : Hid (t.toNat < T) := by unfold Hid; omega
  have HN4 : Hid ((m t.toNat).length < 4096) := by unfold Hid; rw [hmm]; omega
  have HSB : Hid (qbytes (m t.toNat) + QI.size ⟨xn, xh, xb⟩ ≤ B) := by unfold Hid; rw [hqq]; exact hs
  have HQQ := Lib.hid hqq
  clear hmm hqq
  obtain ⟨⟨hne, hne1, hne2, hne3, hne4, hne5⟩, hlt1, hlt2, hlt3, hlt4, hlt5⟩ := ne_new (show bl < w.heap.size from hblt)
  obtain ⟨⟨hme, hme1, hme2, hme3, hme4, hme5⟩, hmt1, hmt2, hmt3, hmt4, hmt5⟩ := ne_new (show q < w.heap.size from hqlt)
  have hblt' : bl < w.heap.size := hblt
  have hqlt' : q < w.heap.size := hqlt
  go_enter Try.func34, Try.ntmps34
  go_wp2_with (go_at_call 73; refine HO.out.mono ?_; rintro r w' ⟨rfl, rfl⟩)
  have hsm : (xh.length : Int) + (xb.length : Int) ≤ 281474976702464 := by omega
  have hln0 : (0 : Int) ≤ (xh.length : Int) + (xb.length : Int) := by omega
  have hI2 : I ≤ 4096 := hI.2
  have hB2 : B ≤ 1048576 := hB.2
  have hgt : ¬ B < nb + ((xh.length : Int) + (xb.length : Int)) := by omega
  have hp0 : (w.alloc (.cells #[.int .i64 xn, .slice A xh.length c, .slice A' xb.length c'] 57)).cell? ⟨w.heap.size, 0, none⟩ = some (.int .i64 xn) := by simp
  have hp1 : (w.alloc (.cells #[.int .i64 xn, .slice A xh.length c, .slice A' xb.length c'] 57)).cell? ⟨w.heap.size, 1, none⟩ = some (.slice A xh.length c) := by simp
  have hp2 : (w.alloc (.cells #[.int .i64 xn, .slice A xh.length c, .slice A' xb.length c'] 57)).cell? ⟨w.heap.size, 2, none⟩ = some (.slice A' xb.length c') := by simp
  have hF0 : Frm NoS w (w.alloc (.cells #[.int .i64 xn, .slice A xh.length c, .slice A' xb.length c'] 57)) := Frm.alloc (Frm.refl _ _) _
  have hv0 := hF0.keep hcv (fun h => h)
  have hv1 := hF0.keep hcn (fun h => h)
  have hv2 := hF0.keep hq1 (fun h => h)
  have hv3 := hF0.keep hq2 (fun h => h)
  have hW0s : w.heap.size < (w.alloc (.cells #[.int .i64 xn, .slice A xh.length c, .slice A' xb.length c'] 57)).heap.size := by simp
  have HF := Lib.hid hF0
  clear hF0
  generalize World.alloc _ (.cells #[.int .i64 xn, .slice A xh.length c, .slice A' xb.length c'] 57) = W0 at *
  have hd1 : decide (I ≤ (n : Int)) = false := by simp; omega
  have hd2 : decide (B < nb + ((xh.length : Int) + (xb.length : Int))) = false := by simp; omega
  have hwr : IntKind.i64.wrap (nb + ((xh.length : Int) + (xb.length : Int))) = nb + ((xh.length : Int) + (xb.length : Int)) := IntWalk.i64_in _ ⟨by omega, by omega⟩
  go_region_held3 (fun w' => w'.cell? ⟨bl, t.toNat * 2, none⟩ = some (.slice Av n cv) ∧ w'.cell? ⟨bl, t.toNat * 2 + 1, none⟩ = some (.int .i64 nb) ∧ w'.cell? ⟨q, 1, none⟩ = some (.int .i64 B) ∧ w'.cell? ⟨q, 2, none⟩ = some (.int .i64 I) ∧ w'.cell? ⟨w.heap.size, 0, none⟩ = some (.int .i64 xn) ∧ w'.cell? ⟨w.heap.size, 1, none⟩ = some (.slice A xh.length c) ∧ w'.cell? ⟨w.heap.size, 2, none⟩ = some (.slice A' xb.length c')) (go_keep) (first | (go_at_call 36; refine (size_any _ _ _ _ _ _ _ _ hb1 hb2).mono ?_; rintro r w4 ⟨rfl, rfl⟩))
  clear hwr hd1 hd2
  go_wp2_with fail
  obtain ⟨i0, hi0, hz0, hz1, hz2⟩ := info_parts Try.infoItem
  have hF1 : Frm NoS W0 (W0.alloc (.cells #[.int .i64 xn, .slice A xh.length c, .slice A' xb.length c'] 57)).drew := (Frm.alloc (Frm.refl _ _) _).drew
  have hF2 := HF.out.trans hF1
  have hx0 := hF1.keep hp0 (fun h => h)
  have hx1 := hF1.keep hp1 (fun h => h)
  have hx2 := hF1.keep hp2 (fun h => h)
  have hy0 := hF1.keep hv0 (fun h => h)
  have hy1 := hF1.keep hv1 (fun h => h)
  have hW1s := Nat.lt_of_lt_of_le hW0s hF1.size
  have HF2 := Lib.hid hF2
  clear hF1 hF2 hp0 hp1 hp2 hv0 hv1 hv2 hv3 hW0s
  generalize World.drew _ = W1 at *
  have K1 : Hid (∀ W, Frm NoS w W → Calls Try.prog 74 #[.agg #[.int .i64 xn, .slice A xh.length c, .slice A' xb.length c']] W (OwnPost W ⟨xn, xh, xb⟩)) := fun W hf => own_any (ok := ok) ⟨xn, xh, xb⟩ W (H1.out W hf) (H2.out W hf)
  clear H1 H2
  have hyf : W1.frozen? ⟨bl, t.toNat * 2, none⟩ = false := (HF2.out.frozen (p := ⟨bl, t.toNat * 2, none⟩) hblt' (j := 0) (fun h => h)).trans (HFZ.out _)
  have hyf1 : W1.frozen? ⟨bl, t.toNat * 2 + 1, none⟩ = false := (HF2.out.frozen (p := ⟨bl, t.toNat * 2 + 1, none⟩) hblt' (j := 0) (fun h => h)).trans (HFZ.out _)
  have hbW1 : bl < W1.heap.size := World.block_lt_of_cell? W1 _ hy0
  have hnb : (Value.slice Av n cv).ownBlock ≠ some bl := fun he => by have := HNE.out bl he; omega
  have hnt : ¬ tg bl = 4 + t.toNat := by omega
  have hnz : ¬ tg w.heap.size = 4 + t.toNat := by have := htz.out w.heap.size (Nat.le_refl _); omega
  go_region_law (first | (go_simp; go_at_call 74; refine (K1.out _ HF2.out.drew).mono ?_; rintro r w5 ⟨hv5, bv5, rfl, hit, ⟨A5, c5, rfl⟩, ⟨A6, c6, rfl⟩, hbl5, -, -⟩; have HIT := Lib.hid hit; have hF5 := (Frm.refl NoS W1).drew.trans (Frm.of_below hbl5); have g0 := hF5.keep hy0 (fun h => h); have hl5 : bl < w5.heap.size := Nat.lt_of_lt_of_le hbW1 hF5.size; have hl5' : ¬ bl = w5.heap.size := Nat.ne_of_lt hl5; have gf := hF5.keepf hy0 hyf (j := 0) (fun h => h); have HB5 := Lib.hid hbl5; have HF5 := Lib.hid (HF2.out.trans hF5); clear hit hbl5 hF5) | (refine step_append_lies _ (by rfl) _ _ _ (by rfl) 0 57 i0 _ 3 56 Try.underlying144 hi0 hz0 hz1 hz2 rfl (by omega) (.slice Av n cv) n r.flatten (by rfl) (HOWN0.out _ (HF5.out.alloc _)) ⟨w5.heap.size, 0, none⟩ 1 1 [.int .i64 xn, .slice A5 xh.length c5, .slice A6 xb.length c6] (by rfl) (by rfl) (World.news_of_block (cs := #[.int .i64 xn, .slice A5 xh.length c5, .slice A6 xb.length c6]) (t := 57) (fr := (0, 0)) (heap_alloc_new w5 _)) (by simp [Value.oneCell']) (by omega) (by unfold maxLen; omega) (by omega) (by simp) (w5.heap.size + 1) (by simp) ?_; intro gg cap w6 hown6 hgrow hat hlt6; have hFA : Frm (fun k _ => tg k = 4 + t.toNat) _ w6 := Frm.of_grown hgrow (fun k hk j => HNE.out k hk); have hFB := (Frm.of_below (S := fun k _ => tg k = 4 + t.toNat) HB5.out).trans ((Frm.alloc (Frm.refl (fun k _ => tg k = 4 + t.toNat) w5) (.cells #[.int .i64 xn, .slice A5 xh.length c5, .slice A6 xb.length c6] 57)).trans hFA); have g6 := hFB.keep hy0 hnt; have gf6 := hFB.keepf (p := ⟨bl, t.toNat * 2, none⟩) hy0 hyf (j := 0) hnt; have g61 := hFB.keep hy1 hnt; have gf61 := hFB.keepf (p := ⟨bl, t.toNat * 2 + 1, none⟩) hy1 hyf1 (j := 0) hnt; have gx0 := hFB.keep hx0 hnz; have gx1 := hFB.keep hx1 hnz; have gx2 := hFB.keep hx2 hnz; have HF56 := Lib.hid ((Frm.alloc (Frm.refl (fun k _ => tg k = 4 + t.toNat) w5) (.cells #[.int .i64 xn, .slice A5 xh.length c5, .slice A6 xb.length c6] 57)).trans hFA); have HO6 := Lib.hid hown6; have HAT := Lib.hid hat; clear hFA hFB hown6 hgrow hat))
  all_goals
    go_wp2_with fail
    have hwr : IntKind.i64.wrap (nb + ((xh.length : Int) + (xb.length : Int))) = nb + ((xh.length : Int) + (xb.length : Int)) := IntWalk.i64_in _ ⟨by omega, by omega⟩
    have hb6 : bl < w6.heap.size := World.block_lt_of_cell? w6 _ g6
    have hb6' : ¬ bl = w6.heap.size := Nat.ne_of_lt hb6
    have hx6 : w.heap.size < w6.heap.size := World.block_lt_of_cell? w6 _ gx0
    have hx6' : ¬ w.heap.size = w6.heap.size := Nat.ne_of_lt hx6
    go_region_law (first | (go_simp; go_at_call 36; refine (size_any _ _ _ _ _ _ _ _ hb1 hb2).mono ?_; rintro r w7 ⟨rfl, rfl⟩))
    all_goals
      clear hwr
      go_wp2
      go_ret
      have hfin := put_fin (t := t.toNat) (x := ⟨xn, xh, xb⟩) (gg := gg) (cap := cap) (c := [.int .i64 xn, .slice A5 xh.length c5, .slice A6 xb.length c6]) HQ.out HTN.out hcv HL.out HN4.out HSB.out HF5.out HF56.out (HIT.out.mono (fun k _ hk => ⟨Nat.lt_of_lt_of_le hW1s hk.1, hk.2⟩)) (by rw [HM.out]; exact HO6.out) HAT.out hlt6
      rw [HM.out, HQQ.out] at hfin
      refine ⟨_, rfl, QRep.frm hfin.1 (S := NoS) ?_ (fun _ _ _ h => h), ?_, hfin.2.trans (Frm.of_below ?_)⟩
      · repeat (first | exact Frm.refl _ _ | apply Frm.drew | apply Frm.alloc)
      · intro k hk
        simp [tgPut, hk]
      · repeat (first | exact Below.refl _ _ | apply Below.drew | apply bl_alloc)
end Go.Proofs.Ytpihldeikdiniaa
